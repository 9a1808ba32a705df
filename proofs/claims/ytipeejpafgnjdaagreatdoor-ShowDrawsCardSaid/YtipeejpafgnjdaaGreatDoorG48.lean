/- Part 48 of the proof: Yk. -/
import Derived.Test.YtipeejpafgnjdaaGreatDoorG47
set_option linter.all false
namespace Go.Known
open Go Go.AE Go.Proofs
open Go.Plain
section
variable {α:Type}
def mkG (g:α→AVal):Nat→List (Int×α)→List (AVal×AVal×Nat)
 | _,[]=>[]
 | j,(k,v) :: r=>(.int .i64 k,g v,j) :: mkG g (j+1) r
theorem Zyq (g:α→AVal):∀ (j:Nat) (E:List (Int×α)),(mkG g j E).length=E.length
 | _,[]=>rfl
 | j,(k,v) :: r=>by simp only[mkG,List.length_cons,Zyq g (j+1) r]
theorem Zvx {g:α→AVal} (q:Nat→Nat) (hg:∀ v,(g v).ren q=g v):∀ (j:Nat) (E:List (Int×α)),renM q (mkG g j E)=mkG g j E
 | _,[]=>rfl
 | j,(k,v) :: r=>by
  have:=Zvx q hg (j+1) r
  simp only[renM,mkG,List.map_cons,AVal.ren,hg]at *
  rw[this]
theorem Znz (g:α→AVal) (id:Int):∀ (j:Nat) (E:List (Int×α)),Zia .int (.int .i64 id) (mkG g j E)=some (match fndG id E with
 | some (p,v)=>some (p,g v,j+p)
 | none=>none)
 | _,[]=>rfl
 | j,(k,v) :: r=>by
  simp only[mkG,Zia,Zlw,if_true,fndG]
  by_cases h:id=k
  ·subst h; simp
  ·have hb:(id == k)=false:=by simpa using h
   simp only[hb,if_neg h]
   rw[Znz g id (j+1) r]
   cases fndG id r with
   | none=>rfl
   | some pw=>obtain ⟨p,w⟩:=pw; simp only; congr 4; omega
theorem Z22 (g:α→AVal) (k:Int) (v:α):∀ (j p:Nat) (E:List (Int×α)),(mkG g j E).set p (.int .i64 k,g v,j+p)=mkG g j (E.set p (k,v))
 | _,_,[]=>rfl
 | j,0,(k',v') :: r=>rfl
 | j,p+1,(k',v') :: r=>by
  simp only[mkG,List.set_cons_succ]
  have:=Z22 g k v (j+1) p r
  rw[show j+1+p=j+(p+1) by omega]at this
  rw[this]
theorem Zx3 (g:α→AVal) (k:Int) (v:α):∀ (j:Nat) (E:List (Int×α)),mkG g j E++[(.int .i64 k,g v,j+E.length)]=mkG g j (E++[(k,v)])
 | _,[]=>rfl
 | j,(k',v') :: r=>by
  simp only[mkG,List.cons_append,List.length_cons]
  have:=Zx3 g k v (j+1) r
  rw[show j+1+r.length=j+(r.length+1) by omega]at this
  rw[this]
theorem Z45 (g:α→AVal) (k:Int) (v:α) (p:Nat) (E:List (Int×α)):(mkG g 0 E).set p (.int .i64 k,g v,p)=mkG g 0 (E.set p (k,v)):=by
 have:=Z22 g k v 0 p E
 rwa[Nat.zero_add]at this
theorem Zta (g:α→AVal) (k:Int) (v:α) (E:List (Int×α)):mkG g 0 E++[(.int .i64 k,g v,E.length)]=mkG g 0 (E++[(k,v)]):=by
 have:=Zx3 g k v 0 E
 rwa[Nat.zero_add]at this
end
abbrev natV (v:Nat):AVal:=.int .i64 v
set_option maxRecDepth 100000 in
set_option maxHeartbeats 8000000 in
theorem Z7i (f:Int) (ls:List Lt) (hv:ValR f ls) (h0:ls≠[]) :
 Ctr Tryz.prog 97 [cV f ls] ⟨[],1⟩ fun r m=>r=.ptr 1 0 0∧m=⟨[(1,.cells 3 [[.imm (ls.map rowL),.sl 3 0 ls.length,.sl 2 0 (frt0 ls).length]]),(2,.cells 1 (nums (frt0 ls))),(3,.cells 1 (nums (othN ls ls.length)))],4⟩:=by
 refine Zln hm Tryz.func97 cf57 rfl rfl fun K hK=>?_
 have h:ls.length≤400:=hv.len
 have hpos:0<ls.length:=List.length_pos_iff.2 h0
 have hw:=hv.wv h0
 have hll:(ls.map rowL).length=ls.length:=List.length_map ..
 have hrr:∀ q,Zak q (ls.map rowL)=ls.map rowL:=fun q=>Zad q _ (Zac ls)
 have hren:=Zab
 have hrM:∀ q (E:List (Int×Nat)),renM q (mkG natV 0 E)=mkG natV 0 E:=fun q E=>Zvx q (fun _=>rfl) 0 E
 have hrL:∀ (ps:List (Nat×Nat)) q,Zak q (ps.map lrow)=ps.map lrow:=fun ps q=>Zad q _ (Zp9 ps)
 have hrow:=fun i hi=>Zfu ls (i:=i) hi
 have hsort:=fun ps h1 h2 h3=>cSortP f ls ps h1 h2 h3
 unfold cV at *
 generalize ls.map rowL=rows at *
 unfold rowL at hrow
 have hw0:IntKind.i64.wrap 0=0:=by decide
 have hb0:ls.length≤1048576:=by omega
 simp[hll,hb0]
 have hrep:∀ q,Zak q (List.replicate ls.length [AVal.int .i64 0])=List.replicate ls.length [AVal.int .i64 0]:=fun q=>by
  have:nums (List.replicate ls.length 0)=List.replicate ls.length [AVal.int .i64 0]:=by simp[nums]
  rw[← this,hren]
 refine Zbg (α:=Nat) (fun i=>[(28,.int .i64 i),(27,.int .i64 ls.length),(26,.imm rows),(7,.bool (down ls i)),(6,slV 5 ((psN ls i).map lrow)),(5,.map 4),(4,.ptr 3 0 0),(3,.int .i64 ls.length),(1,.ptr 1 0 0)])
  (fun i=>⟨(1,.cells 2 [[.int .i64 f,.imm rows]]) :: (2,.cells 1 (nums (othN ls i))) :: (3,.cells 3 [[.imm rows,.sl 2 0 ls.length,.nilSl]]) :: (4,.map (mkG natV 0 (fsE ls i)) (fsE ls i).length) :: blV 5 2 ((psN ls i).map lrow) [],6⟩)
  (fun i=>ls.length - i) (fun i=>i≤ls.length) 0 [(2,10),(3,12),(4,14)] (by simp[hrr,hren,hrM,hrL,hrep,Z43,down,Zaa,cntP,othN,fsE,mkG,nums,renM]) (by simp) ?_
 intro i hi N hN
 try simp only at hi hN ⊢
 have hw1:IntKind.i64.wrap ((i:Int)+1)=(i:Int)+1:=Zae (by omega) (by omega)
 by_cases hlt:i<ls.length
 ·have hN':=hN (i+1)
  rw[Int.natCast_add,Int.natCast_one]at hN'
  clear hN
  have hr:=hrow i hlt
  obtain⟨_,hr2⟩:=getE hr
  have hdn:=Zuo hlt
  have hol:=Zo4 (ls:=ls) i
  have hnl:(nums (othN ls i)).length=ls.length:=by rw[Zay,hol]
  have hpl:(psN ls i).length≤1048575:=by have:=Z6i (ls:=ls) i; omega
  by_cases hk:(at' ls i).k=2
  ·have hx:isX (at' ls i)=true:=by simp[isX,hk]
   have hp:isP (at' ls i)=false:=by simp[isP,hk]
   have e1:psN ls (i+1)=psN ls i:=psN_no hp
   have e2:fsE ls (i+1)=updG (fsE ls i) (at' ls i).i i:=by simp only[fsE,hx,if_true]
   have e3:othN ls (i+1)=match valG (at' ls i).i (fsE ls i)with
    | some j=>((othN ls i).set i j).set j i
    | none=>othN ls i:=by
    rw[othN,if_pos hx]
    cases valG (at' ls i).i (fsE ls i)<;>rfl
   rw[hp]at hdn
   simp only[Bool.false_eq_true,if_false]at hdn
   rw[e1,e2,e3,hdn]at hN'
   have hfnd:=Znz natV (at' ls i).i 0 (fsE ls i)
   have hsp:=(Zry (ls:=ls) i).1 (at' ls i).i
   generalize at' ls i=l at *
   generalize hO:othN ls i=O at *
   generalize hEE:fsE ls i=EE at *
   cases hf:fndG l.i EE with
   | none=>
    have hval:valG l.i EE=none:=by unfold valG; rw[hf]; rfl
    have hup:updG EE l.i i=EE++[(l.i,i)]:=by unfold updG; rw[hf]
    rw[hf]at hfnd
    simp only at hfnd
    have hsn:mkG natV 0 EE++[(.int .i64 l.i,.int .i64 (i:Int),EE.length)]=mkG natV 0 (EE++[(l.i,i)]):=Zta natV l.i i EE
    rw[hval,hup]at hN'
    simp[hlt,hr,hr2,hk,hfnd,hw1]
    refine hN' [(1,1),(2,2),(3,3),(4,4),(5,5)] _ _ (by omega) (by omega) ?_
    simp +contextual [hrr,hren,hrM,hrL,hsn]
   | some pj=>
    obtain⟨p,j⟩:=pj
    have hval:valG l.i EE=some j:=by unfold valG; rw[hf]; rfl
    obtain⟨hji,_⟩:=hsp j hval
    have hjn:j<ls.length:=by omega
    have hup:updG EE l.i i=EE.set p (l.i,i):=by unfold updG; rw[hf]
    rw[hf]at hfnd
    simp only[Nat.zero_add]at hfnd
    have hst:=Z45 natV l.i i p EE
    rw[hval,hup]at hN'
    have hs1:=Zhq O i j
    have hs2:=Zhq (O.set i j) j i
    have hOl:O.length=ls.length:=hol
    have hst':(mkG natV 0 EE).set p (.int .i64 l.i,.int .i64 (i:Int),p)=mkG natV 0 (EE.set p (l.i,i)):=hst
    have hq1:=Ziw (l:=O) (i:=i) (by omega)
    have hO2:(O.set i j).length=ls.length:=by rw[List.length_set,hOl]
    have hq2:=Ziw (l:=O.set i j) (i:=j) (by omega)
    have hnl2:(nums (O.set i j)).length=ls.length:=by rw[Zay,hO2]
    have hEl:(EE.set p (l.i,i)).length=EE.length:=List.length_set
    simp only at hN'
    generalize O.getD i 0=a1 at *
    generalize (O.set i j).getD j 0=a2 at *
    generalize (O.set i j).set j i=O3 at *
    generalize O.set i j=O2 at *
    generalize EE.set p (l.i,i)=E2 at *
    obtain⟨_,hq12⟩:=getE hq1
    obtain⟨_,hq22⟩:=getE hq2
    simp[hlt,hr,hr2,hk,hfnd,hw1,hnl,hjn,hOl,hq1,hq12,hs1,hq2,hq22,hnl2,hs2,hst']
    refine hN' [(1,1),(2,2),(3,3),(4,4),(5,5)] _ _ (by omega) (by omega) ?_
    simp +contextual [hrr,hren,hrM,hrL,hEl]
  ·have hk1:=hw.kin i hlt hk
   have hx:isX (at' ls i)=false:=by simp[isX,hk1]
   have hp:isP (at' ls i)=true:=by simp[isP,hk1]
   have e1:(psN ls (i+1)).map lrow=(psN ls i).map lrow++[[.int .i64 (i:Int),.int .i64 (upN ls i:Nat)]]:=by rw[Z8c hp]; simp[lrow]
   have e2:fsE ls (i+1)=fsE ls i:=by simp only[fsE,hx,Bool.false_eq_true,if_false]
   have e3:othN ls (i+1)=othN ls i:=by simp only[othN,hx,Bool.false_eq_true,if_false]
   rw[hp]at hdn
   simp only[if_true]at hdn
   rw[e1,e2,e3,hdn]at hN'
   have hwa:IntKind.i64.wrap (2*(i:Int))=((2*i:Nat):Int):=by rw[Zae (by omega) (by omega)]; omega
   have hup:upN ls i=if down ls i then 2*((i+ls.length - 1) % ls.length)+1 else 2*i:=by
    unfold upN Zb5
    cases down ls i<;>rfl
   rw[hup]at hN'
   have hpl':((psN ls i).map lrow).length=(psN ls i).length:=List.length_map ..
   have hrP:=fun q=>hrL (psN ls i) q
   have hrO:=fun q=>hren q (othN ls i)
   have hrM':=fun q=>hrM q (fsE ls i)
   generalize (psN ls i).map lrow=PP at *
   generalize at' ls i=l at *
   generalize nums (othN ls i)=O at *
   generalize mkG natV 0 (fsE ls i)=MM at *
   generalize 2*i=i2 at *
   cases hd:down ls i with
   | true=>
    rw[hd]at hN'
    simp only[if_true]at hN'
    have hwb:IntKind.i64.wrap ((i:Int) - 1)=(i:Int) - 1:=Zae (by omega) (by omega)
    have hwc:IntKind.i64.wrap ((i:Int) - 1+(ls.length:Int))=((i+ls.length - 1:Nat):Int):=by rw[Zae (by omega) (by omega)]; omega
    have hm2:((i+ls.length - 1:Nat):Int).tmod (ls.length:Int)=(((i+ls.length - 1) % ls.length:Nat):Int):=rfl
    have hml:(i+ls.length - 1) % ls.length<ls.length:=Nat.mod_lt _ (by omega)
    generalize (i+ls.length - 1) % ls.length=z at *
    generalize i+ls.length - 1=y at *
    have hw4:IntKind.i64.wrap (2*(z:Int))=((2*z:Nat):Int):=by rw[Zae (by omega) (by omega)]; omega
    have hw5:IntKind.i64.wrap (((2*z:Nat):Int)+1)=((2*z+1:Nat):Int):=by rw[Zae (by omega) (by omega)]; omega
    generalize 2*z+1=y2 at *
    generalize 2*z=y1 at *
    simp[hlt,hr,hr2,hk,hk1,hw1,hwa,hwb,hwc,hm2,hw4,hw5,h0,hpl,hpl',hd]
    refine hN' [(1,1),(2,2),(3,3),(4,4),(5,39)] _ _ (by omega) (by omega) ?_
    simp +contextual [hrr,hrM',hrP,hrO,hpl']
   | false=>
    rw[hd]at hN'
    simp only[Bool.false_eq_true,if_false]at hN'
    simp[hlt,hr,hr2,hk,hk1,hw1,hwa,hpl,hpl',hd]
    refine hN' [(1,1),(2,2),(3,3),(4,4),(5,29)] _ _ (by omega) (by omega) ?_
    simp +contextual [hrr,hrM',hrP,hrO,hpl']
 ·have hie:i=ls.length:=by omega
  subst hie
  clear hN hrow
  obtain⟨hRk,hAp,_⟩:=ValR.ranks hv.lo hv.okr
  have hmem:∀ p,p∈psN ls ls.length→POk ls p:=fun p hp=>by
   obtain⟨h1,h2,_⟩:=Z0o hp
   have hm:=Zcq h1
   obtain⟨_,_,_,c,d,e,e1,_⟩:=(Zl9 (by simpa[isP]using h2)).1 (hv.okr _ hm)
   have hin:inG (at' ls p.1).g ls≤ls.length:=Za4
   have hhi:=hv.hi
   exact⟨h1,⟨by omega,by omega⟩,c,by omega⟩
  have hpl:=Z6i (ls:=ls) ls.length
  have hne:psN ls ls.length≠[]:=by
   have h1:(0,upN ls 0)∈psN ls ls.length:=by
    unfold psN
    exact List.mem_map.2 ⟨0,List.mem_filter.2 ⟨List.mem_range.2 hpos,by simp[isP,hv.fst]⟩,rfl⟩
   exact List.ne_nil_of_mem h1
  have hs:=hsort _ hne hmem (by omega)
  have hax:=fun d h1 h2=>Z85 (d:=d) hAp h1 h2
  clear hsort hmem
  generalize psN ls ls.length=PS at *
  have hneL:¬PS.map lrow=[]:=by simpa using hne
  have hPl:(PS.map lrow).length=PS.length:=List.length_map ..
  simp[Zhh hneL,Zhf hneL,hPl]
  refine Zb2 hs [(2,5),(1,1)] (by simp) (by simp[hrr,hrL]) (by simp) ?_
  rintro _ _ ⟨rfl,ps',hperm,hsorted,rfl⟩
  have hfr:=hax ps' hperm hsorted
  have hl':ps'.length=PS.length:=hperm.length_eq
  have hl2:(ps'.map lrow).length=ps'.length:=List.length_map ..
  simp[hrr,hrL,hl',hl2]
  have hneF:frt0 ls≠[]:=by rw[← hfr]; simpa using fun e:ps'=[]=>hne (List.length_eq_zero_iff.1 (by rw[← hl',e]; rfl))
  have hrO:=fun q=>hren q (othN ls ls.length)
  generalize nums (othN ls ls.length)=OO at *
  clear hs hax hperm hsorted
  rw[← hl']
  refine Zbg (α:=Nat) (fun t=>[(88,.int .i64 t),(87,.int .i64 ps'.length),(86,.sl 5 0 ps'.length),(4,.ptr 3 0 0)])
   (fun t=>⟨(2,.cells 1 OO) :: (3,.cells 3 [[.imm rows,.sl 2 0 ls.length,slV 6 (nums ((ps'.take t).map Prod.snd))]]) :: (5,.cells 2 (ps'.map lrow)) :: blV 6 1 (nums ((ps'.take t).map Prod.snd)) [],7⟩)
   (fun t=>ps'.length - t) (fun t=>t≤ps'.length) 0 [(2,2),(3,3),(5,5)] (by simp[hrr,hrL,hrO,nums]) (by simp) ?_
  intro t ht N2 hN2
  try simp only at ht hN2 ⊢
  have hw2:IntKind.i64.wrap ((t:Int)+1)=(t:Int)+1:=Zae (by omega) (by omega)
  by_cases htl:t<ps'.length
  ·have hg:(ps'.map lrow)[t]? = some [.int .i64 (ps'[t].1:Nat),.int .i64 (ps'[t].2:Nat)]:=by rw[List.getElem?_map,List.getElem?_eq_getElem htl]; rfl
   obtain⟨_,hg2⟩:=getE hg
   have hN':=hN2 (t+1)
   have hft:nums ((ps'.take (t+1)).map Prod.snd)=nums ((ps'.take t).map Prod.snd)++[[.int .i64 (ps'[t].2:Nat)]]:=by
    rw[List.take_succ_eq_append_getElem htl,List.map_append,nums,List.map_append]
    rfl
   rw[hft,Int.natCast_add,Int.natCast_one]at hN'
   have hfl:(nums ((ps'.take t).map Prod.snd)).length≤1048575:=by simp[nums]; omega
   have hrF:=fun q=>hren q ((ps'.take t).map Prod.snd)
   have hrP:=fun q=>hrL ps' q
   generalize nums ((ps'.take t).map Prod.snd)=FF at *
   generalize ps'[t]=p at *
   generalize ps'.map lrow=PR at *
   simp[htl,hl2,hg,hg2,hw2,hfl]
   refine hN' [(2,2),(3,3),(5,5),(6,20)] _ _ (by omega) (by omega) ?_
   simp +contextual [hrr,hrP,hrO,hrF]
  ·have hte:t=ps'.length:=by omega
   subst hte
   rw[List.take_length,hfr]
   have hneN:=Zmm hneF
   have hnl:(nums (frt0 ls)).length=(frt0 ls).length:=Zay _
   have hrF:=fun q=>hren q (frt0 ls)
   generalize nums (frt0 ls)=FF at *
   simp[Zhh hneN,Zhf hneN,hnl]
   exact endK hK [(1,3),(2,6),(3,2)] (by simp[hrr,hrO,hrF])
end Go.Known
