/- Part 46 of the proof: Ye, Yg, Yi, Yj, Yo. -/
import Derived.Test.YtipeejpafgnjdaaGreatDoorG43
import Derived.Test.YtipeejpafgnjdaaGreatDoorG44
import Derived.Test.YtipeejpafgnjdaaGreatDoorG45
set_option linter.all false
section
namespace Go.Known
open Go Go.AE Go.Proofs
open Go.Plain
theorem Zha (rows:List (List AVal)):(imV rows).one=true:=by unfold imV; split<;>rfl
theorem Zdl (rows:List (List AVal)):(imV rows).cells=some [imV rows]:=by unfold imV; split<;>rfl
theorem Zmm {l:List Nat} (h:l≠[]):¬nums l=[]:=by simpa[nums]using h
theorem Z3b {l:List Nat} {i:Nat} (h:i<l.length):l.getD i 0=l[i]:=by rw[List.getD,List.getElem?_eq_getElem h]; rfl
theorem Ziw {l:List Nat} {i:Nat} (h:i<l.length):(nums l)[i]? = some [.int .i64 (l.getD i 0:Nat)]:=Zco (by rw[Z3b h]; exact List.getElem?_eq_getElem h)
set_option maxRecDepth 100000 in
set_option maxHeartbeats 2000000 in
theorem cRCap (f:Int) (ls:List Lt) (A:AVal) (front:List Nat) (done:List Int) (hA:A.closed=true) (hA1:A.one=true) (h:ls.length≤1000) (h0:front≠[]) (hfl:front.length≤10000) (hf:∀ d,d∈front→d<2*ls.length) :
 PCall Tryz.prog 101 [drV f ls A (.imm (nums front)) done] (.int .i64 (if capN front<front.length - 1 then (capN front:Nat)else -1)):=by
 refine Zdi hm Tryz.func101 cmRCap rfl rfl (by simp[Zag,AVal.closed,Zac,hA,Za8,Zdb,Za0]) trivial fun K hK=>?_
 have hpos:0<front.length:=List.length_pos_iff.2 h0
 have hcI:=Zdl (irow done)
 have hoI:=Zha (irow done)
 have hrr:∀ q,Zak q (ls.map rowL)=ls.map rowL:=fun q=>Zad q _ (Zac ls)
 have hrD:∀ q,(imV (irow done)).ren q=imV (irow done):=fun q=>Zx4 q done
 have hrA:∀ q,A.ren q=A:=fun q=>AVal.ren_closed q _ hA
 have hrn:∀ q,Zak q (nums front)=nums front:=fun q=>Zab q _
 have hgn:=fun i (hi:i<front.length)=>Ziw hi
 have hnl:(nums front).length=front.length:=Zay front
 unfold drV at *
 generalize ls.map rowL=rows at *
 generalize imV (irow done)=D at *
 generalize hFF:nums front=FF at *
 simp[hA1,hcI,hoI]
 refine Zbg (α:=Nat) (fun i=>[(3,.int .i64 i),(1,.ptr 1 0 0)]) (fun i=>⟨[(1,.cells 5 [[.int .i64 f,.imm rows,A,.imm FF,D]])],2⟩) (fun i=>front.length - i)
  (fun i=>i≤front.length - 1∧fstN (Z0f front) (front.length - 1 - i) i=capN front) 0 [] (by simp[hrr,hrD,hrA,hrn]) ⟨by omega,rfl⟩ ?_
 rintro i ⟨hi,hfst⟩ N hN
 try simp only at hi hfst hN ⊢
 have hw:IntKind.i64.wrap ((i:Int)+1)=((i+1:Nat):Int):=by rw[Zae (by omega) (by omega)]; omega
 by_cases hlt:i+1<front.length
 ·have hg:=hgn i (by omega)
  obtain⟨_,hg2⟩:=getE hg
  have hh:=hgn (i+1) hlt
  obtain⟨_,hh2⟩:=getE hh
  have hm1:=hf _ (Zgk hlt)
  have hrev:=Z68 (front.getD (i+1) 0) (by omega)
  obtain⟨k,hk⟩:∃ k,front.length - 1 - i=k+1:=⟨front.length - 1 - i - 1,by omega⟩
  have hi1:i<front.length:=by omega
  rw[hk]at hfst
  have hw':((i+1:Nat):Int)<(front.length:Int):=by omega
  have hcap:Z0f front i=decide (front.getD i 0=bkN (front.getD (i+1) 0)):=rfl
  generalize front.getD i 0=a at *
  generalize front.getD (i+1) 0=b at *
  generalize hi2:i+1=i2 at *
  simp[hw,hw',hlt,hg,hg2,hh,hh2,hnl,hi1]
  refine Zbm hrev ?_
  by_cases hc:a=bkN b
  ·rw[decide_eq_true hc]at hcap
   rw[Zuu hcap]at hfst
   rw[← hfst,if_pos (by omega)]at hK
   simp[hc]
   exact endK hK [] (by simp)
  ·rw[decide_eq_false hc]at hcap
   rw[Zuc hcap,hi2]at hfst
   have hc':¬((a:Int)=(bkN b:Nat)):=by omega
   simp[hc',hw]
   exact hN i2 [] _ _ (by omega) ⟨by omega,by rw[show front.length - 1 - i2=k by omega]; exact hfst⟩ (by simp[hrr,hrD,hrA,hrn])
 ·have hie:front.length - 1 - i=0:=by omega
  rw[hie]at hfst
  simp only[fstN]at hfst
  rw[← hfst,if_neg (by omega)]at hK
  have hw':¬((i+1:Nat):Int)<(front.length:Int):=by omega
  generalize hi2:i+1=i2 at *
  simp[hw,hw',hlt,hnl]
  exact endK hK [] (by simp)
theorem cr_eq {ls:List Lt} {done:List Int} {x:Nat} {id:Int} (h0:id≠0) (hd:id∉done):crN ls done x=id↔(ldN ls x).k=2∧(ldN ls x).i=id:=by
 unfold crN
 split
 ·rename_i h
  exact⟨fun e=>⟨h.1,e⟩,fun e=>e.2⟩
 ·rename_i h
  exact⟨fun e=>absurd e.symm h0,fun e=>absurd ⟨e.1,by rw[e.2]; exact hd⟩ h⟩
set_option maxRecDepth 100000 in
set_option maxHeartbeats 4000000 in
theorem cRRun (f:Int) (ls:List Lt) (front:List Nat) (done:List Int) (i:Nat) (h:ls.length≤1000) (hw:Wv ls) (hi:i<front.length) (hfl:front.length≤10000) (hf:∀ d,d∈front→d<2*ls.length) (hdn:done.length≤10000) :
 PCall Tryz.prog 102 [drV f ls (.imm (nums (axis ls))) (.imm (nums front)) done,.int .i64 i] (.int .i64 (runN 4 ls done front i:Nat)):=by
 refine Zdi hm Tryz.func102 cmRRun rfl rfl (by simp[Zag,AVal.closed,Zac,Za8,Zdb,Za0]) trivial fun K hK=>?_
 have hcI:=Zdl (irow done)
 have hoI:=Zha (irow done)
 have hrr:∀ q,Zak q (ls.map rowL)=ls.map rowL:=fun q=>Zad q _ (Zac ls)
 have hrD:∀ q,(imV (irow done)).ren q=imV (irow done):=fun q=>Zx4 q done
 have hrA:∀ q,Zak q (nums (axis ls))=nums (axis ls):=fun q=>Zab q _
 have hrn:∀ q,Zak q (nums front)=nums front:=fun q=>Zab q _
 have hgn:=fun i (hi:i<front.length)=>Ziw hi
 have hnl:(nums front).length=front.length:=Zay front
 have hmem:=fun j (hj:j<front.length)=>hf _ (Zgk hj)
 have hcr:=fun d (hd:d<2*ls.length)=>cRCr f ls (.imm (nums (axis ls))) (.imm (nums front)) done d (by simp[AVal.closed,Za0]) (by simp[AVal.closed,Za0]) h hd hdn rfl rfl
 have hax:(axis ls).length≤1000:=by rw[Zas]; exact Nat.le_trans Za4 h
 have hturn:=fun d (hd:d<2*ls.length)=>c40b f ls (axis ls) d h hax (by omega) (fun v hv hk=>mem_axis.2 ⟨hv,by simp[isP,hw.kin v hv hk]⟩) (by rw[Zas]; exact hw.pas)
 have htl:=fun d (hd:d<2*ls.length) (hk:(ldN ls d).k=2)=>(Zup hw hd hk).1
 unfold runN at hK
 have hcd:∀ d,crN ls done d≠0→crN ls done d∉done:=fun d hd hin=>by
  unfold crN at hd hin
  split at hin
  ·rename_i hc; exact hc.2 hin
  ·rename_i hc; rw[if_neg hc]at hd; exact hd rfl
 unfold drV cV at *
 generalize ls.map rowL=rows at *
 generalize imV (irow done)=D at *
 generalize nums front=FF at *
 generalize nums (axis ls)=AX at *
 clear hax
 have hg:=hgn i hi
 obtain⟨_,hg2⟩:=getE hg
 have hc0:=hcr _ (hmem i hi)
 obtain⟨id,hid⟩:∃ id,crN ls done (front.getD i 0)=id:=⟨_,rfl⟩
 have hid2:=hcd (front.getD i 0)
 rw[hid]at hK hc0 hid2
 generalize front.getD i 0=a at *
 simp[hcI,hoI,hg,hg2,hi,hnl]
 refine Zbm hc0 ?_
 by_cases hz:id=0
 ·rw[if_pos hz]at hK
  simp[hz]
  exact endK hK [] (by simp)
 ·rw[if_neg hz]at hK
  have hnd:=hid2 hz
  simp[hz]
  refine Zbg (α:=Nat) (fun n=>[(6,.int .i64 n),(5,.int .i64 id),(2,.ptr 1 0 0),(1,.int .i64 i)]) (fun n=>⟨[(1,.cells 5 [[.int .i64 f,.imm rows,.imm AX,.imm FF,D]])],2⟩) (fun n=>5 - n)
   (fun n=>1≤n∧n≤4∧min 4 (n+folN ls id front (i+n))=min 4 (1+folN ls id front (i+1))) 1 [] (by simp[hrr,hrD,hrA,hrn]) ⟨by omega,by omega,rfl⟩ ?_
  rintro n ⟨hn1,hn4,hmin⟩ N hN
  try simp only at hn1 hn4 hmin hN ⊢
  rw[← hmin]at hK
  obtain⟨j,hj⟩:∃ j,i+n=j:=⟨_,rfl⟩
  rw[hj]at hK
  have hwj:IntKind.i64.wrap ((i:Int)+(n:Int))=(j:Int):=by rw[Zae (by omega) (by omega)]; omega
  by_cases hlt:j<front.length
  ·have hlt':(j:Int)<(front.length:Int):=by omega
   by_cases h4:n<4
   ·have h4':(n:Int)<4:=by omega
    have hgj:=hgn j hlt
    obtain⟨_,hgj2⟩:=getE hgj
    have hgp:=hgn (j - 1) (by omega)
    obtain⟨hpl,hgp2⟩:=getE hgp
    have hwp:IntKind.i64.wrap ((j:Int) - 1)=((j - 1:Nat):Int):=by rw[Zae (by omega) (by omega)]; omega
    have hwn:IntKind.i64.wrap ((n:Int)+1)=((n+1:Nat):Int):=by rw[Zae (by omega) (by omega)]; omega
    have hx:=hmem j hlt
    have hy:=hmem (j - 1) (by omega)
    have hcx:=hcr _ hx
    have htx:=hturn _ hx
    have hrev:=Z68 (front.getD (j - 1) 0) (by omega)
    have hok:okF ls id front j=(decide ((ldN ls (front.getD j 0)).k=2)&&decide ((ldN ls (front.getD j 0)).i=id)&&decide (tnN ls (front.getD j 0)=bkN (front.getD (j - 1) 0))):=rfl
    have hce:=cr_eq (ls:=ls) (x:=front.getD j 0) hz hnd
    have htn:tnN ls (front.getD j 0)=Za6 ls (axis ls) (front.getD j 0):=rfl
    have hj1:j - 1<front.length:=by omega
    generalize front.getD j 0=x at *
    generalize front.getD (j - 1) 0=y at *
    generalize j - 1=j1 at *
    by_cases hc:crN ls done x=id
    ·rw[hc]at hcx
     by_cases ht:Za6 ls (axis ls) x=bkN y
     ·rw[decide_eq_true (hce.1 hc).1,decide_eq_true (hce.1 hc).2,htn,decide_eq_true ht]at hok
      rw[Zh4 hlt hok]at hK
      rw[ht]at htx
      simp[hwj,hlt,hlt',h4,h4',hgj,hgj2,hgp,hgp2,hwp,hnl,hj1,hpl]
      refine Zbm hcx ?_
      simp[hwj,hlt,hlt',h4,h4',hgj,hgj2,hgp,hgp2,hwp,hnl,hj1,hpl]
      refine Zbm htx ?_
      simp[hwj,hlt,hlt',h4,h4',hgj,hgj2,hgp,hgp2,hwp,hnl,hj1,hpl]
      refine Zbm hrev ?_
      simp[hwn]
      refine hN (n+1) [] _ _ (by omega) ⟨by omega,by omega,?_⟩ (by simp[hrr,hrD,hrA,hrn])
      rw[show i+(n+1)=j+1 by omega,← hmin,hj,Zh4 hlt hok]
      congr 1
      omega
     ·have ht':¬((Za6 ls (axis ls) x:Nat):Int)=(bkN y:Nat):=by omega
      rw[htn,decide_eq_false ht,Bool.and_false]at hok
      rw[Zfy (fun e=>by rw[hok]at e; exact absurd e.2 (by simp)),Nat.add_zero,Nat.min_eq_right hn4]at hK
      simp[hwj,hlt,hlt',h4,h4',hgj,hgj2,hgp,hgp2,hwp,hnl,hj1,hpl]
      refine Zbm hcx ?_
      simp[hwj,hlt,hlt',h4,h4',hgj,hgj2,hgp,hgp2,hwp,hnl,hj1,hpl]
      refine Zbm htx ?_
      simp[hwj,hlt,hlt',h4,h4',hgj,hgj2,hgp,hgp2,hwp,hnl,hj1,hpl]
      refine Zbm hrev ?_
      simp[ht,ht']
      exact endK hK [] (by simp)
    ·have hok':okF ls id front j=false:=by
      rw[hok]
      by_cases h1:(ldN ls x).k=2
      ·by_cases h2:(ldN ls x).i=id
       ·exact absurd (hce.2 ⟨h1,h2⟩) hc
       ·simp[h2]
      ·simp[h1]
     rw[Zfy (fun e=>by rw[hok']at e; exact absurd e.2 (by simp)),Nat.add_zero,Nat.min_eq_right hn4]at hK
     simp[hwj,hlt,hlt',h4,h4',hgj,hgj2,hgp,hgp2,hwp,hnl,hj1,hpl]
     refine Zbm hcx ?_
     simp[hc]
     exact endK hK [] (by simp)
   ·have h4':¬(n:Int)<4:=by omega
    have hn:n=4:=by omega
    rw[Nat.min_eq_left (by omega),← hn]at hK
    simp[hwj,hlt,hlt',h4,h4',hnl]
    exact endK hK [] (by simp)
  ·have hlt':¬(j:Int)<(front.length:Int):=by omega
   rw[Zfy (fun e=>hlt e.1),Nat.add_zero,Nat.min_eq_right hn4]at hK
   simp[hwj,hlt,hlt',hnl]
   exact endK hK [] (by simp)
end Go.Known
end
section
namespace Go.Known
open Go Go.AE Go.Proofs
open Go.Plain
theorem Z44 {P:Program} {f:FuncId} {args:List AVal} {m:SMem} {K K':AVal→SMem→Prop} (h:Ctr P f args m K) (hk:∀ r sm,K r sm → ∃ mt,Trim mt sm∧K' r mt):Ctr P f args m K':=by
 refine⟨h.1,fun W Φ ρ vs w hr ha hav=>(h.2 W Φ ρ vs w hr ha hav).mono fun e w' he=>?_⟩
 obtain⟨u,r,m1,Φ',ρ',e1,hE,hk1,hr',hR,hn,sm,rfl,hK⟩:=he
 obtain⟨mt,ht,hK'⟩:=hk r sm hK
 exact⟨u,r,mt.mem,Φ',ρ',e1,hE,hk1,ht.rel hr',hR,by show m.mem.next≤mt.next; rw[← ht.1]; exact hn,mt,rfl,hK'⟩
theorem trim1 (k:Nat) (els rest:List (List AVal)) (n:Nat):Trim ⟨[(1,.cells k els)],n⟩ ⟨[(1,.cells k (els++rest))],n⟩:=by
 refine⟨rfl,fun b x hx=>?_⟩
 simp only[SMem.get,Zar]at hx ⊢
 split at hx
 ·rename_i hb
  injection hx with hx
  subst hx
  exact .inr ⟨k,els,rest,rfl,by rw[if_pos hb]⟩
 ·cases hx
set_option maxRecDepth 100000 in
set_option maxHeartbeats 2000000 in
theorem cDelI (rows:List (List AVal)) (i:Nat) (hi:i+2≤rows.length) (hl:rows.length≤100000) (hc:Zal rows=true) :
 Ctr Tryz.prog 152 [.sl 1 0 rows.length,.int .i64 i,.int .i64 ((i+2:Nat):Int)] ⟨[(1,.cells 1 rows)],2⟩ fun v m=>
  v=.sl 1 0 (rows.length - 2)∧m=⟨[(1,.cells 1 (rows.take i++rows.drop (i+2)))],2⟩:=by
 refine Z44 (K:=fun v m=>v=.sl 1 0 (rows.length - 2)∧m=⟨[(1,.cells 1 ((rows.take i++rows.drop (i+2))++List.replicate 2 [.int .i64 0]))],2⟩) ?_ fun r sm hk=>by
  obtain⟨rfl,rfl⟩:=hk
  exact⟨_,trim1 1 _ _ 2,rfl,rfl⟩
 refine Zlc hm Tryz.func152 cf98 rfl rfl fun K hK=>?_
 have hK':=hK _ _ ⟨rfl,rfl⟩
 clear hK
 have hr:∀ q,Zak q rows=rows:=fun q=>Zad q _ hc
 obtain⟨j,hj⟩:∃ j,i+2=j:=⟨_,rfl⟩
 have h1:i≤j:=by omega
 have h2:j≤rows.length:=by omega
 have h3:¬(i:Int)=(j:Int):=by omega
 have h3':¬i=j:=by omega
 have h4:¬rows.length=0:=by omega
 have h7:i≤rows.length:=by omega
 have h9:¬rows=[]:=fun e=>h4 (by rw[e]; rfl)
 have hb:min (rows.length - j) (rows.length - j)=rows.length - j:=by omega
 have hd:i+(rows.length - j)=rows.length - 2:=by omega
 have h8:i+(rows.length - j)≤rows.length:=by omega
 have he:rows.length - 2≤rows.length:=by omega
 have hk:rows.length - (rows.length - 2)=2:=by omega
 have hl2:(rows.drop j).take (rows.length - j)=rows.drop j:=List.take_of_length_le (by simp)
 have hg:(rows.take i++rows.drop j).length=rows.length - 2:=by simp; omega
 rw[hj]at hK' ⊢
 simp[hb,hd,he,hk,hl2,Zlf,h1,h2,h3,h3',h4,h7,h8,h9,Zan]
 have hA:rows.take i++(rows.drop j++rows.drop (rows.length - 2))=(rows.take i++rows.drop j)++rows.drop (rows.length - 2):=by rw[List.append_assoc]
 have hF1:(rows.take i++(rows.drop j++rows.drop (rows.length - 2))).take (rows.length - 2)=rows.take i++rows.drop j:=by
  rw[hA,List.take_append_of_le_length (by omega),List.take_of_length_le (by omega)]
 have hF2:(rows.take i++(rows.drop j++rows.drop (rows.length - 2))).drop rows.length=[]:=List.drop_eq_nil_of_le (by simp; omega)
 have hF3:(rows.take i++(rows.drop j++rows.drop (rows.length - 2))).length=rows.length:=by simp; omega
 generalize hFF:rows.take i++(rows.drop j++rows.drop (rows.length - 2))=F at *
 have hn1:rows.length - 2+2=rows.length:=by omega
 have hm0:rows.length≤i+(rows.length - j+2)+2:=by omega
 have hm1:rows.length≤i+(rows.length - j+2):=by omega
 have hm3:rows.length≤F.length:=by omega
 simp[hm0,hm1,hm3,hk,hF1,hF2,hn1]
 have hr1:∀ q,Zak q (rows.take i)=rows.take i:=fun q=>by rw[Zbn,List.map_take,← Zbn,hr]
 have hr2:∀ q,Zak q (rows.drop j)=rows.drop j:=fun q=>by rw[Zbn,List.map_drop,← Zbn,hr]
 exact endK hK' [] (by simp[hr1,hr2])
end Go.Known
end
section
namespace Go.Known
open Go Go.AE Go.Proofs
open Go.Plain
attribute [local simp] Zsp Zl1 Zi6 Zx6 Znq Zxc Zn2 Zns Zwv Zn3 Zxq Zw3 Zxy Zxn Z27 Z2u Z56 Zr2 Zsc Zn5 Zpl Zi9 Zsl
theorem trimI (els rest:List (List AVal)) (n:Nat) (t:List (Nat×ABlk)):Trim ⟨[(1,.cells 1 els)],n⟩ ⟨(1,.cells 1 (els++rest)) :: t,n⟩:=by
 refine⟨rfl,fun b x hx=>?_⟩
 simp only[SMem.get,Zar]at hx ⊢
 split at hx
 ·rename_i hb
  injection hx with hx
  subst hx
  exact .inr ⟨1,els,rest,rfl,by rw[if_pos hb]⟩
 ·cases hx
theorem endI {K:AVal→SMem→Prop} {k n:Nat} {els F:List (List AVal)} {t:List (Nat×ABlk)} (hK:K (.sl 3 0 k) ⟨[(3,.cells 1 els)],4⟩) (hF:F.take els.length=els) (hr:∀ q,Zak q els=els) (hn:3≤n):EndT 3 K (.sl 1 0 k) ⟨(1,.cells 1 F) :: t,n⟩:=by
 have e:F=els++F.drop els.length:=by conv=>lhs; rw[← List.take_append_drop els.length F,hF]
 rw[e]
 exact⟨_,trimI els _ n t,endK hK [(3,1)] (by simp[hr,hn])⟩
set_option maxRecDepth 100000 in
set_option maxHeartbeats 8000000 in
theorem cRepA (A V:List (List AVal)) (i:Nat) (hi:i<A.length) (hl:A.length≤100000) (hV:V≠[]) (hvl:V.length≤10) (hv1:(V.all fun x=>x.length == 1)=true) (hcA:Zal A=true) (hcV:Zal V=true) :
 Ctr Tryz.prog 156 [.sl 1 0 A.length,.int .i64 i,.int .i64 A.length,.sl 2 0 V.length] ⟨[(1,.cells 1 A),(2,.cells 1 V)],3⟩ fun r m=>r=.sl 3 0 (i+V.length)∧m=⟨[(3,.cells 1 (A.take i++V))],4⟩:=by
 refine Z0z (b:=1) (k:=1) (els:=A) hm Zw0 Tryz.func156 Z5s rfl rfl rfl fun K hK N hN=>?_
 have hrA:∀ q,Zak q A=A:=fun q=>Zad q _ hcA
 have hrV:∀ q,Zak q V=V:=fun q=>Zad q _ hcV
 have hrT:∀ q,Zak q (A.take i)=A.take i:=fun q=>by rw[Zbn,List.map_take,← Zbn,hrA]
 have hK':=hK _ _ ⟨rfl,rfl⟩
 clear hK
 obtain⟨E,hE⟩:∃ E,A++List.replicate (N - A.length) (List.replicate 1 AVal.bot)=E:=⟨_,rfl⟩
 have hpad:padS ⟨[(1,.cells 1 A),(2,.cells 1 V)],3⟩ 1 1 A N=⟨[(1,.cells 1 E),(1,.cells 1 A),(2,.cells 1 V)],3⟩:=by rw[← hE]; rfl
 have hEl:E.length=N:=by rw[← hE]; simp; omega
 have hEt:∀ j,j≤A.length→E.take j=A.take j:=fun j hj=>by rw[← hE,List.take_append_of_le_length hj]
 rw[hpad]
 clear hpad hE
 have h1:i≤A.length:=by omega
 have h2:i≤N:=by omega
 have h3:¬i=A.length:=by omega
 have h3':¬(i:Int)=(A.length:Int):=by omega
 have h4:¬N<i:=by omega
 have h5:i+V.length≤1048576:=by omega
 have h6:min i N=i:=by omega
 have hEti:=hEt i h1
 by_cases hroom:N<i+V.length
 ·have h7:¬i+V.length<A.length:=by omega
  have h7':¬(i:Int)+(V.length:Int)<(A.length:Int):=by omega
  simp[h1,h2,h3,h3',h4,h5,h6,h7,h7',hN,hEl,hroom,Zbh,Zni,hEti]
  refine⟨_,Trim.refl _,?_⟩
  exact endK hK' [(3,19)] (by simp[hrT,hrV])
 ·have h8:i+V.length≤N:=by omega
  obtain⟨F,hF⟩:∃ F,E.take i++V++E.drop (i+V.length)=F:=⟨_,rfl⟩
  have hFl:F.length=N:=by rw[← hF]; simp; omega
  have hFt:F.take (i+V.length)=A.take i++V:=by
   rw[← hF,hEti,List.take_append_of_le_length (by simp; omega),List.take_of_length_le (by simp; omega)]
  have hF':A.take i++(V++E.drop (i+V.length))=F:=by rw[← hF,hEti,List.append_assoc]
  have hrE:∀ q,Zak q (A.take i++V)=A.take i++V:=fun q=>by rw[Zje,hrT,hrV]
  have hlen:(A.take i++V).length=i+V.length:=by simp; omega
  have ht:((i:Int)+(V.length:Int)).toNat=i+V.length:=by omega
  have hp:(0:Int)≤(i:Int)+(V.length:Int):=by omega
  by_cases hsh:i+V.length<A.length
  ·have h7:(i:Int)+(V.length:Int)<(A.length:Int):=by omega
   have h9:i+V.length≤A.length:=by omega
   have ha:i+V.length+(A.length - (i+V.length))=A.length:=by omega
   simp[h1,h2,h3,h3',h4,h5,h6,hsh,h7,hN,hEl,hroom,Zbh,Zni,hEti,h8,hF',hFl,Zan,ht,hp,h9,ha]
   exact endI hK' (by rw[hlen,hFt]; rw[List.take_append_of_le_length (by simp; omega),List.take_of_length_le (by simp; omega)]) hrE (by omega)
  ·have h7:¬(i:Int)+(V.length:Int)<(A.length:Int):=by omega
   simp[h1,h2,h3,h3',h4,h5,h6,hsh,h7,hN,hEl,hroom,Zbh,Zni,hEti,h8,hF',hFl,Zan]
   exact endI hK' (by rw[hlen,hFt]) hrE (by omega)
end Go.Known
end
section
namespace Go.Known
open Go Go.AE Go.Proofs
open Go.Plain
attribute [local simp] Zsp Zl1 Zi6 Zx6 Znq Zxc Zn2 Zns Zwv Zn3 Zxq Zw3 Zxy Zxn Z27 Z2u Z56 Zr2 Zsc Zn5 Zpl Zi9 Zsl
set_option maxRecDepth 100000 in
set_option maxHeartbeats 8000000 in
theorem cRepB (A V:List (List AVal)) (i j:Nat) (hij:i<j) (hj:j<A.length) (hl:A.length≤100000) (hV:V≠[]) (hvl:V.length≤10) (hcA:Zal A=true) (hcV:Zal V=true) :
 Ctr Tryz.prog 156 [.sl 1 0 A.length,.int .i64 i,.int .i64 j,.sl 2 0 V.length] ⟨[(1,.cells 1 A),(2,.cells 1 V)],3⟩ fun r m=>r=.sl 3 0 (i+V.length+(A.length - j))∧m=⟨[(3,.cells 1 (A.take i++V++A.drop j))],4⟩:=by
 refine Z0z (b:=1) (k:=1) (els:=A) hm Zw0 Tryz.func156 Z5s rfl rfl rfl fun K hK N hN=>?_
 have hrA:∀ q,Zak q A=A:=fun q=>Zad q _ hcA
 have hrV:∀ q,Zak q V=V:=fun q=>Zad q _ hcV
 have hrT:∀ q,Zak q (A.take i)=A.take i:=fun q=>by rw[Zbn,List.map_take,← Zbn,hrA]
 have hrD:∀ q,Zak q (A.drop j)=A.drop j:=fun q=>by rw[Zbn,List.map_drop,← Zbn,hrA]
 have hK':=hK _ _ ⟨rfl,rfl⟩
 clear hK
 obtain⟨E,hE⟩:∃ E,A++List.replicate (N - A.length) (List.replicate 1 AVal.bot)=E:=⟨_,rfl⟩
 have hpad:padS ⟨[(1,.cells 1 A),(2,.cells 1 V)],3⟩ 1 1 A N=⟨[(1,.cells 1 E),(1,.cells 1 A),(2,.cells 1 V)],3⟩:=by rw[← hE]; rfl
 have hEl:E.length=N:=by rw[← hE]; simp; omega
 have hEt:∀ j,j≤A.length→E.take j=A.take j:=fun j hj=>by rw[← hE,List.take_append_of_le_length hj]
 have hEd:(E.drop j).take (A.length - j)=A.drop j:=by rw[← List.drop_take,hEt _ (Nat.le_refl _),List.take_length]
 rw[hpad]
 clear hpad hE
 have hEti:=hEt i (by omega)
 have hrE:∀ q,Zak q (A.take i++V++A.drop j)=A.take i++V++A.drop j:=fun q=>by rw[Zje,Zje,hrT,hrV,hrD]
 have hlen:(A.take i++V++A.drop j).length=i+V.length+(A.length - j):=by simp; omega
 obtain⟨im,him⟩:∃ im,i+V.length=im:=⟨_,rfl⟩
 obtain⟨rl,hrl⟩:∃ rl,A.length - j=rl:=⟨_,rfl⟩
 obtain⟨tot,htot⟩:∃ tot,im+rl=tot:=⟨_,rfl⟩
 have hvp:0<V.length:=List.length_pos_iff.2 hV
 have hw1:IntKind.i64.wrap ((i:Int)+(V.length:Int))=(im:Int):=by rw[Zae (by omega) (by omega)]; omega
 have hw2:IntKind.i64.wrap ((im:Int)+(rl:Int))=(tot:Int):=by rw[Zae (by omega) (by omega)]; omega
 have hw3:IntKind.i64.wrap ((tot:Int) - (i:Int))=((tot - i:Nat):Int):=by rw[Zae (by omega) (by omega)]; omega
 have a1:i≤j:=by omega
 have a2:j≤N:=by omega
 have a3:¬(i:Int)=(j:Int):=by omega
 have a3':¬i=j:=by omega
 have a4:¬(j:Int)=(A.length:Int):=by omega
 have a4':¬j=A.length:=by omega
 have a5:i≤A.length:=by omega
 have a6:j≤A.length:=by omega
 have a7:i≤N:=by omega
 rw[him,hrl,htot]at hK'
 rw[hrl]at hEd
 by_cases hroom:N<tot
 ·have b1:(N:Int)<(tot:Int):=by omega
  have b2:i+(tot - i)=tot:=by omega
  have b3:tot≤1048576:=by omega
  have b4:i≤tot:=by omega
  have b5:im≤tot:=by omega
  have b6:min i N=i:=by omega
  obtain⟨G,hG⟩:∃ G,A.take i++V++List.replicate rl [AVal.int .i64 0]=G:=⟨_,rfl⟩
  have hGl:G.length=tot:=by rw[← hG]; simp; omega
  have hx1:cpR (A.take i++List.replicate (tot - i) [AVal.int .i64 0]) i (tot - i) V=G:=by
   have e1:A.take i++List.replicate (tot - i) [AVal.int .i64 0]=A.take i++List.replicate V.length [AVal.int .i64 0]++List.replicate rl [AVal.int .i64 0]:=by
    rw[List.append_assoc,List.replicate_append_replicate,show V.length+rl=tot - i by omega]
   rw[e1,Zk3 (by simp; omega) (by simp) (by omega),hG]
  have hx2:cpR G im (tot - im) (A.drop j)=A.take i++V++A.drop j:=by
   have e3:=Zk3 (P:=A.take i++V) (Q:=List.replicate rl [AVal.int .i64 0]) (S:=[]) (xs:=A.drop j) (off:=im) (len:=tot - im) (by simp; omega) (by simp; omega) (by simp; omega)
   rw[List.append_nil,List.append_nil,hG]at e3
   exact e3
  have b7:j+rl=A.length:=by omega
  have b8:i+(tot - i)=tot:=by omega
  have b9:im+(tot - im)=tot:=by omega
  simp[hw1,hw2,hw3,a1,a2,a3,a3',a4,a4',a5,a6,a7,hN,hEl,hroom,b1,b2,b3,b4,b5,b6,b7,b8,b9,hrl,Zbh,Zrv,Zni,hEti,hx1,hGl,hEd,hx2]
  refine⟨_,Trim.refl _,?_⟩
  rw[List.append_assoc]at hK' hrE
  exact endK hK' [(3,38)] (by simp[hrE])
 ·have b1:¬(N:Int)<(tot:Int):=by omega
  have b2:tot≤N:=by omega
  have b4:i≤tot:=by omega
  have b5:im≤tot:=by omega
  have b7:j+rl=A.length:=by omega
  have b8:i+(tot - i)=tot:=by omega
  have b9:im+(tot - im)=tot:=by omega
  have hEs:E=A.take i++(E.drop i).take V.length++E.drop im:=by
   rw[← hEti,← him,← List.drop_drop,List.append_assoc,List.take_append_drop,List.take_append_drop]
  have hEm:E.drop im=(E.drop im).take rl++E.drop tot:=by
   rw[← htot,← List.drop_drop,List.take_append_drop]
  have hti:(A.take i).length=i:=by simp; omega
  have hdj:(A.drop j).length=rl:=by simp; omega
  have hfin:∀ R:List (List AVal),(A.take i++V++A.drop j++R).take (A.take i++V++A.drop j).length=A.take i++V++A.drop j:=fun R=>by rw[List.take_append_of_le_length (Nat.le_refl _),List.take_length]
  by_cases hsh:im≤j
  ·have c1:(im:Int)≤(j:Int):=by omega
   obtain⟨G,hG⟩:∃ G,A.take i++V++E.drop im=G:=⟨_,rfl⟩
   have hGl:G.length=N:=by rw[← hG]; simp; omega
   have hx1:cpR E i (tot - i) V=G:=by
    have e1:=Zk3 (P:=A.take i) (Q:=(E.drop i).take V.length) (S:=E.drop im) (xs:=V) (off:=i) (len:=tot - i) hti (by simp; omega) (by omega)
    rw[← hEs,hG]at e1
    exact e1
   have hGd:(G.drop j).take rl=A.drop j:=by
    rw[← hG,List.drop_append,List.drop_eq_nil_of_le (by simp; omega),List.nil_append,List.drop_drop]
    have:im+(j - (A.take i++V).length)=j:=by rw[List.length_append,hti]; omega
    rw[this,hEd]
   obtain⟨H,hH⟩:∃ H,A.take i++V++A.drop j++E.drop tot=H:=⟨_,rfl⟩
   have hHl:H.length=N:=by rw[← hH]; simp; omega
   have hx2:cpR G im (tot - im) (A.drop j)=H:=by
    have e1:=Zk3 (P:=A.take i++V) (Q:=(E.drop im).take rl) (S:=E.drop tot) (xs:=A.drop j) (off:=im) (len:=tot - im) (by rw[List.length_append,hti]; omega) (by rw[hdj]; simp; omega) (by omega)
    rw[List.append_assoc _ _ (E.drop tot),← hEm,hG,hH]at e1
    exact e1
   have hHt:H.take tot=A.take i++V++A.drop j:=by
    have:=hfin (E.drop tot)
    rw[hH,hlen,him,hrl,htot]at this
    exact this
   have b10:tot≤A.length:=by omega
   have b11:tot+(A.length - tot)=A.length:=by omega
   simp[hw1,hw2,hw3,a1,a2,a3,a3',a4,a4',a5,a6,a7,hN,hEl,hroom,b1,b2,b4,b5,b7,b8,b9,c1,hsh,hrl,Zbh,Zrv,Zni,hEti,hEd,hx1,hGl,hGd,hx2,hHl,b10,b11]
   refine endI hK' ?_ hrE (by omega)
   rw[hlen,him,hrl,htot,hHt]
   have:=hfin (List.replicate (A.length - tot) [AVal.int .i64 0]++H.drop A.length)
   rw[hlen,him,hrl,htot]at this
   exact this
  ·have c1:¬(im:Int)≤(j:Int):=by omega
   obtain⟨G,hG⟩:∃ G,E.take im++A.drop j++E.drop tot=G:=⟨_,rfl⟩
   have hGl:G.length=N:=by rw[← hG]; simp; omega
   have hx1:cpR E im (tot - im) (A.drop j)=G:=by
    have e1:=Zk3 (P:=E.take im) (Q:=(E.drop im).take rl) (S:=E.drop tot) (xs:=A.drop j) (off:=im) (len:=tot - im) (by simp; omega) (by rw[hdj]; simp; omega) (by omega)
    rw[List.append_assoc _ _ (E.drop tot),← hEm,List.take_append_drop,hG]at e1
    exact e1
   obtain⟨H,hH⟩:∃ H,A.take i++V++A.drop j++E.drop tot=H:=⟨_,rfl⟩
   have hHl:H.length=N:=by rw[← hH]; simp; omega
   have hx2:cpR G i (tot - i) V=H:=by
    have e0:E.take im=A.take i++(E.drop i).take V.length:=by
     rw[← him,List.take_add,hEti]
    have e1:=Zk3 (P:=A.take i) (Q:=(E.drop i).take V.length) (S:=A.drop j++E.drop tot) (xs:=V) (off:=i) (len:=tot - i) hti (by simp; omega) (by omega)
    rw[← e0,← List.append_assoc,hG,← List.append_assoc,hH]at e1
    exact e1
   have hov:ovOk ⟨[(1,.cells 1 E),(1,.cells 1 A),(2,.cells 1 V)],51⟩ [AVal.sl 1 im (tot - im),AVal.sl 2 0 V.length]:=⟨by omega,by omega,hvp,Nat.zero_lt_one,Nat.zero_lt_one⟩
   simp[hw1,hw2,hw3,a1,a2,a3,a3',a4,a4',a5,a6,a7,hN,hEl,hroom,b1,b2,b4,b5,b7,b8,b9,c1,hsh,hrl,Zbh,Zrv,Zni,hEti,hEd,hx1,hGl,hx2,hov]
   refine endI hK' ?_ hrE (by omega)
   have:=hfin (E.drop tot)
   rw[hH]at this
   exact this
end Go.Known
end
section
namespace Go.Known
open Go Go.AE Go.Proofs
open Go.Plain
attribute [local simp] Zsp Zl1 Zi6 Zx6 Znq Zxc Zn2 Zns Zwv Zn3 Zxq Zw3 Zxy Zxn Z27 Z2u Z56 Zr2 Zsc Zn5 Zpl Zi9 Zsl
set_option maxRecDepth 100000 in
set_option maxHeartbeats 8000000 in
theorem cRepZ (A:List (List AVal)) (i j:Nat) (hij:i<j) (hj:j≤A.length) (hl:A.length≤100000) (hcA:Zal A=true) :
 Ctr Tryz.prog 156 [.sl 1 0 A.length,.int .i64 i,.int .i64 j,.nilSl] ⟨[(1,.cells 1 A)],3⟩ fun r m=>r=.sl 3 0 (i+(A.length - j))∧m=⟨[(3,.cells 1 (A.take i++A.drop j))],4⟩:=by
 refine Z0z (b:=1) (k:=1) (els:=A) hm Zw0 Tryz.func156 Z5s rfl rfl rfl fun K hK N hN=>?_
 have hrA:∀ q,Zak q A=A:=fun q=>Zad q _ hcA
 have hrT:∀ q,Zak q (A.take i)=A.take i:=fun q=>by rw[Zbn,List.map_take,← Zbn,hrA]
 have hrD:∀ q,Zak q (A.drop j)=A.drop j:=fun q=>by rw[Zbn,List.map_drop,← Zbn,hrA]
 have hK':=hK _ _ ⟨rfl,rfl⟩
 clear hK
 obtain⟨E,hE⟩:∃ E,A++List.replicate (N - A.length) (List.replicate 1 AVal.bot)=E:=⟨_,rfl⟩
 have hpad:padS ⟨[(1,.cells 1 A)],3⟩ 1 1 A N=⟨[(1,.cells 1 E),(1,.cells 1 A)],3⟩:=by rw[← hE]; rfl
 have hEl:E.length=N:=by rw[← hE]; simp; omega
 have hEt:∀ j,j≤A.length→E.take j=A.take j:=fun j hj=>by rw[← hE,List.take_append_of_le_length hj]
 have hEd:(E.drop j).take (A.length - j)=A.drop j:=by rw[← List.drop_take,hEt _ (Nat.le_refl _),List.take_length]
 rw[hpad]
 clear hpad hE
 have hEti:=hEt i (by omega)
 have hrE:∀ q,Zak q (A.take i++A.drop j)=A.take i++A.drop j:=fun q=>by rw[Zje,hrT,hrD]
 have hlen:(A.take i++A.drop j).length=i+(A.length - j):=by simp; omega
 obtain⟨rl,hrl⟩:∃ rl,A.length - j=rl:=⟨_,rfl⟩
 obtain⟨tot,htot⟩:∃ tot,i+rl=tot:=⟨_,rfl⟩
 have hw2:IntKind.i64.wrap ((i:Int)+(rl:Int))=(tot:Int):=by rw[Zae (by omega) (by omega)]; omega
 have hw0:IntKind.i64.wrap (i:Int)=(i:Int):=Zae (by omega) (by omega)
 have a1:i≤j:=by omega
 have a2:j≤N:=by omega
 have a3:¬(i:Int)=(j:Int):=by omega
 have a3':¬i=j:=by omega
 have a5:i≤A.length:=by omega
 have a7:i≤N:=by omega
 have a8:¬N<i:=by omega
 have a9:min i N=i:=by omega
 have a10:i<A.length:=by omega
 have a11:(i:Int)<(A.length:Int):=by omega
 have a12:i+(A.length - i)=A.length:=by omega
 have a13:i≤i+(N - i):=by omega
 rw[hrl,htot]at hK'
 rw[hrl]at hEd
 by_cases hje:j=A.length
 ·have h0:rl=0:=by omega
  have h1:tot=i:=by omega
  have h2:A.drop j=[]:=List.drop_eq_nil_of_le (by omega)
  subst h1
  rw[h2,List.append_nil]at hK' hrE hlen
  have e1:A.take tot++E.drop tot=E:=by rw[← hEti,List.take_append_drop]
  have e2:tot+(E.length - tot)=N:=by omega
  have a14:¬(tot:Int)=(A.length:Int):=by omega
  have a15:¬tot=A.length:=by omega
  simp[a1,a2,a3,a3',a5,a7,a8,a9,a10,a11,a12,a14,a15,hN,hEl,hje,Zbh,Zni,hEti,Zan,e1,e2,Z3i]
  have hlt:(A.take tot).length=tot:=by simp; omega
  exact endI hK' (by rw[List.take_left]) hrE (by omega)
 ·have a4:¬(j:Int)=(A.length:Int):=by omega
  have b1:¬(N:Int)<(tot:Int):=by omega
  have b1':¬N<tot:=by omega
  have b2:tot≤N:=by omega
  have b4:i≤tot:=by omega
  have b7:j+rl=A.length:=by omega
  have b8:i+(tot - i)=tot:=by omega
  have a6:j≤A.length:=by omega
  have hti:(A.take i).length=i:=by simp; omega
  have hdj:(A.drop j).length=rl:=by simp; omega
  have hx0:cpR E i (tot - i) []=E:=by
   unfold cpR
   simp
  have hEm:E=A.take i++(E.drop i).take rl++E.drop tot:=by
   rw[← hEti,← htot,← List.drop_drop,List.append_assoc,List.take_append_drop,List.take_append_drop]
  obtain⟨H,hH⟩:∃ H,A.take i++A.drop j++E.drop tot=H:=⟨_,rfl⟩
  have hHl:H.length=N:=by rw[← hH]; simp; omega
  have hx2:cpR E i (tot - i) (A.drop j)=H:=by
   have e1:=Zk3 (P:=A.take i) (Q:=(E.drop i).take rl) (S:=E.drop tot) (xs:=A.drop j) (off:=i) (len:=tot - i) hti (by rw[hdj]; simp; omega) (by omega)
   rw[← hEm,hH]at e1
   exact e1
  have hHt:H.take tot=A.take i++A.drop j:=by
   rw[← hH,List.take_append_of_le_length (by rw[hlen,hrl]; omega),List.take_of_length_le (by rw[hlen,hrl]; omega)]
  have b10:tot≤A.length:=by omega
  have b11:tot+(A.length - tot)=A.length:=by omega
  have b12:(i:Int)≤(j:Int):=by omega
  simp[hw0,hw2,a1,a2,a3,a3',a4,hje,a5,a6,a7,hN,hEl,b1,b1',b2,b4,b7,b8,b10,b11,b12,hrl,Zbh,Zrv,Zni,hEti,hEd,Z3i,hx0,hx2,hHl]
  refine endI hK' ?_ hrE (by omega)
  rw[hlen,hrl,htot,hHt,List.take_append_of_le_length (by rw[hlen,hrl]; omega),List.take_of_length_le (by rw[hlen,hrl]; omega)]
theorem cRepI (A V:List Nat) (i j:Nat) (hij:i<j) (hj:j≤A.length) (hl:A.length≤100000) (hvl:V.length≤10) :
 Ctr Tryz.prog 156 [.sl 1 0 A.length,.int .i64 i,.int .i64 j,slV 2 (nums V)] ⟨(1,.cells 1 (nums A)) :: blV 2 1 (nums V) [],3⟩ fun r m=>r=.sl 3 0 (A.take i++V++A.drop j).length∧m=⟨[(3,.cells 1 (nums (A.take i++V++A.drop j)))],4⟩:=by
 have hA:(nums A).length=A.length:=Zay A
 have hVl:(nums V).length=V.length:=Zay V
 have e:nums (A.take i++V++A.drop j)=(nums A).take i++nums V++(nums A).drop j:=by simp[nums]
 have hlen:(A.take i++V++A.drop j).length=i+V.length+(A.length - j):=by simp; omega
 rw[e,hlen]
 by_cases hV:V=[]
 ·subst hV
  have:=cRepZ (nums A) i j hij (by rw[hA]; exact hj) (by rw[hA]; exact hl) (Za0 _)
  rw[hA]at this
  simpa[slV,blV]using this
 ·have hVn:=Zmm hV
  rw[Zhh hVn,Zhf hVn]
  by_cases hje:j=A.length
  ·have:=cRepA (nums A) (nums V) i (by rw[hA]; omega) (by rw[hA]; exact hl) hVn (by rw[hVl]; exact hvl) (by simp[nums]) (Za0 _) (Za0 _)
   have h2:(nums A).drop j=[]:=List.drop_eq_nil_of_le (by rw[hA]; omega)
   rw[h2,List.append_nil,show A.length - j=0 by omega,Nat.add_zero,hje]
   rw[hA,hVl]at this
   rw[hVl]
   exact this
  ·have:=cRepB (nums A) (nums V) i j hij (by rw[hA]; omega) (by rw[hA]; exact hl) hVn (by rw[hVl]; exact hvl) (Za0 _) (Za0 _)
   rw[hA,hVl]at this
   rw[hVl]
   exact this
end Go.Known
end
