/- Part 50 of the proof: Sl, Sm, Sn, So, Sp. -/
import Derived.Test.YtmfdlchjaldclaaGreatDoorB17
import Derived.Test.YtmfdlchjaldclaaGreatDoorB49
set_option linter.all false
section
namespace Go.Known
open Go Go.AE Go.Proofs
open Go.Plain
theorem fz_cV (f:Int) (L:List Lt):freezeV (SMem.get ⟨[(1,.cells 6 (L.map rowL))],2⟩) 4 (.agg [.int .i64 f,.sl 1 0 L.length])=some (cV f L):=by
 have:=freeze_rows (n:=2) (get:=SMem.get ⟨[(1,.cells 6 (L.map rowL))],2⟩) (b:=1) (k:=6) (rows:=L.map rowL) (by simp) (scal_rows _)
 rw [List.length_map] at this
 rw [freezeV]
 simp only [mapO]
 rw [this]
 rfl
theorem c114s (f:Int) (ls:List Lt) (h0:ls≠[]) (h:ls.length≤1000) :
 Ctr Tryz.prog 50 [cV f ls] ⟨[],1⟩ fun v m=>v=.agg [.int .i64 f,.sl 1 0 ls.length]∧m=⟨[(1,.cells 6 (ls.map rowL))],2⟩:=by
 refine ctr_P hm Tryz.func50 cf114 rfl rfl fun K hK=>?_
 have hK':=hK _ _ ⟨rfl,rfl⟩
 clear hK
 have hrr:∀ q,renLL q (ls.map rowL)=ls.map rowL:=fun q=>renLL_closed q _ (closed_rows ls)
 have h6:=rows6 ls
 have hne:¬ls.map rowL=[]:=by simpa using h0
 have hlen:(ls.map rowL).length=ls.length:=List.length_map ..
 unfold cV at *
 generalize ls.map rowL=rows at *
 have hb:ls.length≤1048576:=by omega
 simp [sr_imm,h6,hne,hlen,hb,appendRowsD]
 exact endK hK' [(1,7)] (by simp [hrr])
theorem c114v (f:Int) (ls:List Lt) (h:ls.length≤1000):PCall Tryz.prog 50 [cV f ls] (cV f ls):=by
 by_cases h0:ls=[]
 · subst h0
   refine PCall.wk (v:=.agg [.int .i64 f,.nilSl]) ?_ (Wk_agg ⟨Wk.refl _,Wk_nil,trivial⟩)
   refine PCall_F hm 4 Tryz.func50 cf114 rfl rfl (by simp [closedL,AVal.closed,closedLL]) (by simp [AVal.closed,closedL]) fun K hK=>?_
   have hK':=hK (.agg [.int .i64 f,.nilSl]) ⟨[],1⟩ rfl
   clear hK
   unfold cV at *
   simp [sr_imm,appendRowsD]
   exact endK hK' [] (by simp)
 · refine PCall_ctr (k:=4) (by simp [closedL,AVal.closed,closed_rows]) (by simp [AVal.closed,closedL,closed_rows]) ((c114s f ls h0 h).mono fun r sm=>?_)
   rintro⟨rfl,rfl⟩
   exact fz_cV f ls
set_option maxRecDepth 100000 in
set_option maxHeartbeats 8000000 in
theorem c51v (f:Int) (ls:List Lt) (hv:ValR f ls) (h0:ls≠[]):PCall Tryz.prog 51 [cV f ls] (cV f (swN ls)):=by
 refine PCall_F hm 4 Tryz.func51 cj51 rfl rfl (by simp [closedL,AVal.closed,closed_rows]) (by simp [AVal.closed,closedL,closed_rows]) fun K hK=>?_
 have hl:ls.length≤1000:=by have:=hv.len; omega
 have hKv:=hK _ _ (fz_cV f (swN ls))
 clear hK
 have hs:=hv.cross_s
 have h114:=c114s f ls h0 hl
 have hMg:=fun i hi=>mix_get (g:=swL) (ls:=ls) (i:=i) hi
 have hMs:=fun i hi=>mix_set (g:=swL) (ls:=ls) (i:=i) hi
 have hMe:=fun i hi hg=>mix_same (g:=swL) (ls:=ls) (i:=i) hi hg
 have hMl:∀ i,((mix swL i ls).map rowL).length=ls.length:=fun i=>by rw [List.length_map,mix_len]
 have hMc:∀ i q,renLL q ((mix swL i ls).map rowL)=(mix swL i ls).map rowL:=fun i q=>renLL_closed q _ (closed_rows _)
 have hM0:(mix swL 0 ls).map rowL=ls.map rowL:=by rw [mix_zero]
 have hMn:(mix swL ls.length ls).map rowL=(swN ls).map rowL:=by rw [mix_all]; rfl
 have hsl:(swN ls).length=ls.length:=by simp [swN]
 rw [← hMn,hsl] at hKv
 have hlen:(ls.map rowL).length=ls.length:=List.length_map ..
 have hrr:∀ q,renLL q (ls.map rowL)=ls.map rowL:=fun q=>renLL_closed q _ (closed_rows ls)
 obtain⟨M,hM⟩:∃ M:Nat→List (List AVal),(fun i=>(mix swL i ls).map rowL)=M:=⟨_,rfl⟩
 have hMi:∀ i,(mix swL i ls).map rowL=M i:=fun i=>by rw [← hM]
 simp only [hMi] at hMg hMs hMe hMl hMc hM0 hMn hKv
 clear hM hMi
 unfold cV at *
 generalize ls.map rowL=rows at *
 simp
 refine SC_ctr h114 [] (by simp [hrr]) (by simp) (by simp) ?_
 rintro r sm ⟨rfl,rfl⟩
 simp [hrr,hlen]
 refine wZ_loop (α:=Nat) (fun i=>[(4,.int .i64 i),(3,.ptr 3 0 0),(2,.ptr 2 0 0),(1,.ptr 1 0 0)])
  (fun i=>⟨[(3,.cells 2 [[.int .i64 f,.sl 4 0 ls.length]]),(4,.cells 6 (M i)),(2,.cells 2 [[.int .i64 0,.nilSl]]),(1,.cells 2 [[.int .i64 f,.imm rows]])],5⟩)
  (fun i=>ls.length - i) (fun i=>i≤ls.length) 0 [(3,5),(4,7)] (by simp [hrr,hM0]) (by simp) ?_
 intro i hi N hN
 try simp only at hi hN ⊢
 by_cases hlt:i<ls.length
 · have hg:=hMg i hlt
   obtain⟨hgl,hg2⟩:=getE hg
   have hset:=hMs i hlt
   have hw:IntKind.i64.wrap ((i:Int)+1)=(i:Int)+1:=wrap64 (by omega) (by omega)
   have hlM:=hMl i
   have hN':=hN (i+1) []
   by_cases hk:(at' ls i).k=2
   · have hss:=hs _ (at'_mem hlt) hk
     have hwn:IntKind.i64.wrap (-(at' ls i).s) = -(at' ls i).s:=wrap64 (by omega) (by omega)
     rw [sw_cross hk] at hset
     simp [hlt,hg,hg2,hlM,rowL,hk,hw,hwn]
     simp only [rowL,hk] at hset
     exact hN' _ _ (by omega) (by omega) (by simp [hrr,hMc,hset])
   · have hsame:=hMe i hlt (by unfold swL; rw [if_neg hk])
     rw [hsame] at hN'
     simp [hlt,hg,hg2,hlM,rowL,hk,hw]
     exact hN' _ _ (by omega) (by omega) (by simp [hrr,hMc])
 · have hie:i=ls.length:=by omega
   subst hie
   simp [hlt]
   exact endK hKv [(1,4)] (by simp [hrr,hMc])
set_option maxRecDepth 100000 in
set_option maxHeartbeats 8000000 in
theorem c52v (f:Int) (ls:List Lt) (hv:ValR f ls) (h0:ls≠[]):PCall Tryz.prog 52 [cV f ls] (cV f (miN f ls)):=by
 refine PCall_F hm 4 Tryz.func52 cj52 rfl rfl (by simp [closedL,AVal.closed,closed_rows]) (by simp [AVal.closed,closedL,closed_rows]) fun K hK=>?_
 have hl:ls.length≤1000:=by have:=hv.len; omega
 have hlo:=hv.lo
 have hhi:=hv.hi
 have hKv:=hK _ _ (fz_cV f (miN f ls))
 clear hK
 have hs:=hv.other_s
 have hq:∀ l,l∈ls→l.k=1→0≤l.g∧l.g≤f∧1≤l.r∧l.r≤inG l.g ls:=by
  obtain⟨F,hF⟩:∃ F:Nat,f=(F:Int):=⟨f.toNat,by omega⟩
  subst hF
  exact hv.pass_q
 have h114:=c114s f ls h0 hl
 have h37:=fun x=>c37 f ls x hl
 have hcnt:∀ x,cntP (fun l=>isP l&&l.g == x) ls=inG x ls:=fun _=>rfl
 simp only [hcnt] at h37
 have hMg:=fun i hi=>mix_get (g:=miL f ls) (ls:=ls) (i:=i) hi
 have hMs:=fun i hi=>mix_set (g:=miL f ls) (ls:=ls) (i:=i) hi
 have hMl:∀ i,((mix (miL f ls) i ls).map rowL).length=ls.length:=fun i=>by rw [List.length_map,mix_len]
 have hMc:∀ i q,renLL q ((mix (miL f ls) i ls).map rowL)=(mix (miL f ls) i ls).map rowL:=fun i q=>renLL_closed q _ (closed_rows _)
 have hM0:(mix (miL f ls) 0 ls).map rowL=ls.map rowL:=by rw [mix_zero]
 have hMn:(mix (miL f ls) ls.length ls).map rowL=(miN f ls).map rowL:=by rw [mix_all]; rfl
 have hsl:(miN f ls).length=ls.length:=by simp [miN]
 rw [← hMn,hsl] at hKv
 have hlen:(ls.map rowL).length=ls.length:=List.length_map ..
 have hrg:=fun i hi=>get_row ls (i:=i) hi
 have hrr:∀ q,renLL q (ls.map rowL)=ls.map rowL:=fun q=>renLL_closed q _ (closed_rows ls)
 obtain⟨M,hM⟩:∃ M:Nat→List (List AVal),(fun i=>(mix (miL f ls) i ls).map rowL)=M:=⟨_,rfl⟩
 have hMi:∀ i,(mix (miL f ls) i ls).map rowL=M i:=fun i=>by rw [← hM]
 simp only [hMi] at hMg hMs hMl hMc hM0 hMn hKv
 clear hM hMi
 unfold cV at *
 generalize ls.map rowL=rows at *
 simp
 refine SC_ctr h114 [] (by simp [hrr]) (by simp) (by simp) ?_
 rintro r sm ⟨rfl,rfl⟩
 simp [hrr,hlen]
 refine wZ_loop (α:=Nat) (fun i=>[(4,.int .i64 i),(3,.ptr 3 0 0),(2,.ptr 2 0 0),(1,.ptr 1 0 0)])
  (fun i=>⟨[(3,.cells 2 [[.int .i64 f,.sl 4 0 ls.length]]),(4,.cells 6 (M i)),(2,.cells 2 [[.int .i64 0,.nilSl]]),(1,.cells 2 [[.int .i64 f,.imm rows]])],5⟩)
  (fun i=>ls.length - i) (fun i=>i≤ls.length) 0 [(3,5),(4,7)] (by simp [hrr,hM0]) (by simp) ?_
 intro i hi N hN
 try simp only at hi hN ⊢
 by_cases hlt:i<ls.length
 · have hg:=hMg i hlt
   obtain⟨hgl,hg2⟩:=getE hg
   have hr:=hrg i hlt
   obtain⟨hrl,hr2⟩:=getE hr
   have hset:=hMs i hlt
   have hw:IntKind.i64.wrap ((i:Int)+1)=(i:Int)+1:=wrap64 (by omega) (by omega)
   have hlM:=hMl i
   have hN':=hN (i+1) []
   by_cases hk:(at' ls i).k=1
   · obtain⟨q1,q2,q3,q4⟩:=hq _ (at'_mem hlt) hk
     have hin:inG (at' ls i).g ls≤ls.length:=cntP_le_one
     have h37':=h37 (at' ls i).g
     have w1:IntKind.i64.wrap (f - (at' ls i).g)=f - (at' ls i).g:=wrap64 (by omega) (by omega)
     have w2:IntKind.i64.wrap ((inG (at' ls i).g ls:Int)+1)=(inG (at' ls i).g ls:Int)+1:=wrap64 (by omega) (by omega)
     have w3:IntKind.i64.wrap ((inG (at' ls i).g ls:Int)+1 - (at' ls i).r)=(inG (at' ls i).g ls:Int)+1 - (at' ls i).r:=wrap64 (by omega) (by omega)
     rw [mi_pass hk] at hset
     simp only [rowL,hk] at hset
     simp [hlt,hg,hg2,hr,hr2,hlM,hlen,rowL,hk,hw,w1]
     refine DC_pure h37' ?_
     simp [hlt,hg,hg2,hr,hr2,hlM,hlen,rowL,hk,hw,w1,w2,w3]
     exact hN' _ _ (by omega) (by omega) (by simp [hrr,hMc,hset])
   · have hss:=hs _ (at'_mem hlt) hk
     have hwn:IntKind.i64.wrap (-(at' ls i).s) = -(at' ls i).s:=wrap64 (by omega) (by omega)
     have hmi:miL f ls (at' ls i)={ at' ls i with s:=-(at' ls i).s }:=by unfold miL; rw [if_neg hk]
     rw [hmi] at hset
     simp only [rowL] at hset
     simp [hlt,hg,hg2,hr,hr2,hlM,hlen,rowL,hk,hw,hwn]
     exact hN' _ _ (by omega) (by omega) (by simp [hrr,hMc,hset])
 · have hie:i=ls.length:=by omega
   subst hie
   simp [hlt]
   exact endK hKv [(1,4)] (by simp [hrr,hMc])
end Go.Known
end
section
namespace Go.Known
open Go Go.AE Go.Proofs
open Go.Plain
set_option maxRecDepth 100000 in
set_option maxHeartbeats 8000000 in
theorem c115 (f:Int) (ls:List Lt) (d:List Bool) (i0:Nat) (h:ls.length≤1000) (hd:d.length=ls.length) (hi0:i0<ls.length) (hp:isP (at' ls i0)=true) (hp2:d[i0]? = some true)
 (hn:∀ j,j<i0→isP (at' ls j)=true→d[j]? = some false) :
 Ctr Tryz.prog 88 [.agg [.int .i64 f,.sl 1 0 ls.length],.sl 2 0 ls.length] ⟨[(1,.cells 6 (ls.map rowL)),(2,.cells 1 (bls d))],3⟩
  fun v m=>v=.agg [.int .i64 f,.sl 3 0 ls.length]∧m=⟨[(3,.cells 6 ((rotL i0 ls).map rowL))],4⟩:=by
 refine ctr_P hm Tryz.func88 cf115 rfl rfl fun K hK=>?_
 have hK':=hK _ _ ⟨rfl,rfl⟩
 clear hK
 have hrr:∀ q,renLL q (ls.map rowL)=ls.map rowL:=fun q=>renLL_closed q _ (closed_rows ls)
 have hrR:∀ q,renLL q ((rotL i0 ls).map rowL)=(rotL i0 ls).map rowL:=fun q=>renLL_closed q _ (closed_rows _)
 have e0:(rotL i0 ls).map rowL=(ls.map rowL).drop i0++(ls.map rowL).take i0:=by unfold rotL; rw [List.map_append,List.map_drop,List.map_take]
 rw [e0] at hK' hrR
 have hlen:(ls.map rowL).length=ls.length:=List.length_map ..
 have hrg:=fun i hi=>get_row ls (i:=i) hi
 have hbr:∀ q,renLL q (bls d)=bls d:=fun q=>ren_bls q _
 have hbl:(bls d).length=ls.length:=by rw [bls,List.length_map,hd]
 have hbg:∀ (j:Nat) (b:Bool),d[j]? = some b→(bls d)[j]? = some [.bool b]:=fun j b h=>bls_get h
 generalize ls.map rowL=rows at *
 generalize bls d=B at *
 simp
 refine wZ_loop (α:=Nat) (fun i=>[(5,.int .i64 i),(4,.ptr 4 0 0),(2,.ptr 3 0 0),(1,.sl 2 0 ls.length)])
  (fun i=>⟨[(3,.cells 2 [[.int .i64 f,.sl 1 0 ls.length]]),(4,.cells 2 [[.int .i64 0,.nilSl]]),(1,.cells 6 rows),(2,.cells 1 B)],5⟩)
  (fun i=>i0+1 - i) (fun i=>i≤i0) 0 [] (by simp [hrr,hbr]) (by simp) ?_
 intro i hi N hN
 try simp only at hi hN ⊢
 have hlt:i<ls.length:=by omega
 have hr:=hrg i hlt
 obtain⟨hrl,hr2⟩:=getE hr
 have hw:IntKind.i64.wrap ((i:Int)+1)=(i:Int)+1:=wrap64 (by omega) (by omega)
 by_cases hie:i=i0
 · subst hie
   have hk:(at' ls i).k=1:=by simpa [isP] using hp
   have hb:=hbg _ _ hp2
   obtain⟨hb1,hb2⟩:=getE hb
   have b1:i≤ls.length:=by omega
   have b2:ls.length - i≤1048576:=by omega
   have b3:¬(ls.length - i=0):=by omega
   have b4:ls.length - i+i=ls.length:=by omega
   have b5:ls.length≤1048576:=by omega
   have b8:i+(ls.length - i)=ls.length:=by omega
   have b9:i+(ls.length - i)≤ls.length:=by omega
   have hdl:(rows.drop i).length=ls.length - i:=by simp [hlen]
   have htl:(rows.take i).length=i:=by simp [hlen]; omega
   have hdt:(rows.drop i).take (ls.length - i)=rows.drop i:=List.take_of_length_le (by omega)
   have hdn:¬rows.drop i=[]:=by
    intro e
    rw [e] at hdl
    simp at hdl
    omega
   generalize hD:rows.drop i=D at *
   generalize hT:rows.take i=T at *
   rcases Nat.eq_zero_or_pos i with h0 | h0
   · subst h0
     have hT0:T=[]:=List.length_eq_zero_iff.1 htl
     subst hT0
     have hD0:D=rows:=by rw [← hD]; rfl
     subst hD0
     have hrt:D.take ls.length=D:=List.take_of_length_le (by omega)
     have hdr:D.drop ls.length=[]:=List.drop_eq_nil_of_le (by omega)
     simp [hlt,hlen,hr,hr2,rowL,hk,hb,hb2,hbl,sr_slO,b5,hdn,hrt,hdr,appendRowsD]
     simp at hK'
     exact endK hK' [(3,29)] (by simp [hrr])
   · have b6:¬ls.length≤ls.length - i:=by omega
     have b7:¬ls.length - i+i≤ls.length - i:=by omega
     simp [hlt,hlen,hr,hr2,rowL,hk,hb,hb2,hbl,sr_slO,b1,b2,b4,b5,b6,b7,b8,b9,hdt,hdn,hdl,htl,hD,hT,appendRowsD]
     exact endK hK' [(3,34)] (by simp [hrR])
 · have hN':=hN (i+1) []
   by_cases hk:(at' ls i).k=1
   · have hb:=hbg _ _ (hn i (by omega) (by simp [isP,hk]))
     obtain⟨hb1,hb2⟩:=getE hb
     simp [hlt,hlen,hr,hr2,rowL,hk,hw,hb,hb2,hbl]
     exact hN' _ _ (by omega) (by omega) (by simp [hrr,hbr])
   · simp [hlt,hlen,hr,hr2,rowL,hk,hw]
     exact hN' _ _ (by omega) (by omega) (by simp [hrr,hbr])
theorem frm_min {ls:List Lt}:∀ k,k≤ls.length → ∀ j,ls.length - k≤j→j<frm ls k→(isP (at' ls j) && !down ls j)=false
 | 0,_,j,h1,h2=>by simp [frm] at h2
 | k+1,hk,j,h1,h2=>by
  simp only [frm] at h2
  split at h2
  · omega
  · rename_i hc
    by_cases hj:j=ls.length - (k+1)
    · subst hj
      simpa using hc
    · exact frm_min k (by omega) j (by omega) h2
def dnV (ls:List Lt) (i:Nat):List Bool:=(List.range i).map fun j=>!down ls j
theorem dnV_succ (ls:List Lt) (i:Nat):bls (dnV ls (i+1))=bls (dnV ls i)++[[.bool (!down ls i)]]:=by simp [dnV,List.range_succ,bls]
theorem dnV_length (ls:List Lt) (i:Nat):(dnV ls i).length=i:=by simp [dnV]
theorem dnV_get {ls:List Lt} {i j:Nat} (h:j<i):(dnV ls i)[j]? = some (!down ls j):=by
 unfold dnV
 rw [List.getElem?_map,List.getElem?_range h]
 rfl
set_option maxRecDepth 100000 in
set_option maxHeartbeats 8000000 in
theorem c43v (f:Int) (ls:List Lt) (hv:ValR f ls) (h0:ls≠[]):PCall Tryz.prog 43 [cV f ls] (cV f (tuN ls)):=by
 refine PCall_F hm 4 Tryz.func43 cj43 rfl rfl (by simp [closedL,AVal.closed,closed_rows]) (by simp [AVal.closed,closedL,closed_rows]) fun K hK=>?_
 have hl:ls.length≤1000:=by have:=hv.len; omega
 have hKv:=hK _ _ (fz_cV f (tuN ls))
 clear hK
 have hkd:∀ l,l∈ls→l.k=1∨l.k=2:=fun l hm=>okR_kind (hv.okr l hm)
 obtain⟨_,hfl⟩:=hv.frm_lt h0
 have hlp:0<ls.length:=by omega
 have hw:=hv.wv h0
 obtain⟨iu,u1,u2,u3⟩:=up_ex hw.pas hv.evn
 obtain⟨_,hfp,hfd⟩:=frm_spec ls.length (Nat.le_refl _) ⟨iu,by omega,u1,u2,u3⟩
 have hfm:=fun j hj=>frm_min (ls:=ls) ls.length (Nat.le_refl _) j (by omega) hj
 have hpm:∀ j,j<ls.length→isP (at' (ls.map tuL) j)=isP (at' ls j):=fun j hj=>by
  have:at' (ls.map tuL) j=tuL (at' ls j):=by simp [at',List.getD,hj]
  rw [this,tu_isP]
 have h115:=c115 f (ls.map tuL) (dnV ls ls.length) (frm ls ls.length) (by rw [List.length_map]; exact hl) (by rw [dnV_length,List.length_map]) (by rw [List.length_map]; exact hfl)
  (by rw [hpm _ hfl]; exact hfp) (by rw [dnV_get hfl,hfd]; rfl) (fun j hj hp=>by
    rw [hpm j (by omega)] at hp
    have:=hfm j hj
    rw [hp,Bool.true_and] at this
    rw [dnV_get (by omega),this])
 rw [List.length_map] at h115
 have hrot:rotL (frm ls ls.length) (ls.map tuL)=tuN ls:=rfl
 rw [hrot] at h115
 rw [tu_len] at hKv
 have h114:=c114s f ls h0 hl
 have h68:=fun i hi=>c68 f ls i hl hi
 have hMg:=fun i hi=>mix_get (g:=tuL) (ls:=ls) (i:=i) hi
 have hMs:=fun i hi=>mix_set (g:=tuL) (ls:=ls) (i:=i) hi
 have hMe:=fun i hi hg=>mix_same (g:=tuL) (ls:=ls) (i:=i) hi hg
 have hMl:∀ i,((mix tuL i ls).map rowL).length=ls.length:=fun i=>by rw [List.length_map,mix_len]
 have hMc:∀ i q,renLL q ((mix tuL i ls).map rowL)=(mix tuL i ls).map rowL:=fun i q=>renLL_closed q _ (closed_rows _)
 have hM0:(mix tuL 0 ls).map rowL=ls.map rowL:=by rw [mix_zero]
 have hMn:(mix tuL ls.length ls).map rowL=(ls.map tuL).map rowL:=by rw [mix_all]
 rw [← hMn] at h115
 have hlen:(ls.map rowL).length=ls.length:=List.length_map ..
 have hrr:∀ q,renLL q (ls.map rowL)=ls.map rowL:=fun q=>renLL_closed q _ (closed_rows ls)
 have hrT:∀ q,renLL q ((tuN ls).map rowL)=(tuN ls).map rowL:=fun q=>renLL_closed q _ (closed_rows _)
 have hDs:=dnV_succ ls
 have hDr:∀ i q,renLL q (bls (dnV ls i))=bls (dnV ls i):=fun i q=>ren_bls q _
 have hDl:∀ i,(bls (dnV ls i)).length=i:=fun i=>by rw [bls,List.length_map,dnV_length]
 have hD0:bls (dnV ls 0)=[]:=rfl
 obtain⟨M,hM⟩:∃ M:Nat→List (List AVal),(fun i=>(mix tuL i ls).map rowL)=M:=⟨_,rfl⟩
 have hMi:∀ i,(mix tuL i ls).map rowL=M i:=fun i=>by rw [← hM]
 simp only [hMi] at hMg hMs hMe hMl hMc hM0 hMn h115
 clear hM hMi
 obtain⟨D,hD⟩:∃ D:Nat→List (List AVal),(fun i=>bls (dnV ls i))=D:=⟨_,rfl⟩
 have hDi:∀ i,bls (dnV ls i)=D i:=fun i=>by rw [← hD]
 simp only [hDi] at hDs hDr hDl hD0 h115
 clear hD hDi
 unfold cV at *
 generalize ls.map rowL=rows at *
 generalize (tuN ls).map rowL=TR at *
 simp
 refine SC_ctr h114 [] (by simp [hrr]) (by simp) (by simp) ?_
 rintro r sm ⟨rfl,rfl⟩
 simp [hrr,hlen]
 refine wZ_loop (α:=Nat) (fun i=>[(5,.int .i64 i),(4,slV 5 (D i)),(3,.ptr 3 0 0),(2,.ptr 2 0 0),(1,.ptr 1 0 0)])
  (fun i=>⟨(3,.cells 2 [[.int .i64 f,.sl 4 0 ls.length]]) :: (4,.cells 6 (M i)) :: (2,.cells 2 [[.int .i64 0,.nilSl]]) :: (1,.cells 2 [[.int .i64 f,.imm rows]]) :: blV 5 1 (D i) [],6⟩)
  (fun i=>ls.length - i) (fun i=>i≤ls.length) 0 [(3,5),(4,7)] (by simp [hrr,hM0,hD0]) (by simp) ?_
 intro i hi N hN
 try simp only at hi hN ⊢
 by_cases hlt:i<ls.length
 · have hg:=hMg i hlt
   obtain⟨hgl,hg2⟩:=getE hg
   have hset:=hMs i hlt
   have hw:IntKind.i64.wrap ((i:Int)+1)=(i:Int)+1:=wrap64 (by omega) (by omega)
   have hlM:=hMl i
   have hN':=hN (i+1)
   have h68':=h68 i (by omega)
   have hDli:(D i).length≤1048575:=by rw [hDl]; omega
   have hDri:=hDr i
   have hdsi:=hDs i
   rw [hdsi] at hN'
   rcases hkd _ (at'_mem hlt) with hk | hk
   · have hsame:=hMe i hlt (tu_pass hk)
     rw [hsame] at hN'
     simp [hlt,hg,hg2,hlM,rowL,hk,hw]
     refine SC_pure h68' ?_
     simp [hDli,hw]
     exact hN' [(5,24)] _ _ (by omega) (by omega) (by simp +contextual [hrr,hMc,hDri])
   · rw [tu_cross hk] at hset
     simp only [rowL,hk] at hset
     simp [hlt,hg,hg2,hlM,rowL,hk,hw]
     refine SC_pure h68' ?_
     simp [hDli,hw]
     exact hN' [(5,37)] _ _ (by omega) (by omega) (by simp +contextual [hrr,hMc,hDri,hset])
 · have hie:i=ls.length:=by omega
   subst hie
   have hDn:¬D ls.length=[]:=by
    intro e
    have:=hDl ls.length
    rw [e] at this
    simp at this
    omega
   have hDll:=hDl ls.length
   have hDr':=hDr ls.length
   simp [hlt,slV_ne,hDn,hDll]
   refine SC_ctr h115 [(1,4),(2,5)] (by simp) (by simp [blV_ne,hDn,hMc,hDr']) (by simp) ?_
   rintro r sm ⟨rfl,rfl⟩
   simp [hrr,hMc,hrT]
   exact endK hKv [(1,15)] (by simp [hrT])
end Go.Known
end
section
namespace Go.Known
open Go Go.AE Go.Proofs
open Go.Plain
set_option maxHeartbeats 4000000 in
theorem c80v (f:Int) (ls:List Lt) (a:Nat) (ha:a<ls.length) (hl:ls.length≤1000):PCall Tryz.prog 121 [cV f ls,.int .i64 a] (cV f (rotL a ls)):=by
 refine PCall_F hm 4 Tryz.func121 cf80 rfl rfl (by simp [closedL,AVal.closed,closed_rows]) (by simp [AVal.closed,closedL,closed_rows]) fun K hK=>?_
 have hKv:=hK _ _ (fz_cV f (rotL a ls))
 clear hK
 rw [rotL_length] at hKv
 have hrr:∀ q,renLL q ((rotL a ls).map rowL)=(rotL a ls).map rowL:=fun q=>renLL_closed q _ (closed_rows _)
 have hrs:∀ q,renLL q (ls.map rowL)=ls.map rowL:=fun q=>renLL_closed q _ (closed_rows _)
 have e0:(rotL a ls).map rowL=(ls.map rowL).drop a++(ls.map rowL).take a:=by unfold rotL; rw [List.map_append,List.map_drop,List.map_take]
 rw [e0] at hKv hrr
 have h6:=rows6 ls
 have h6d:(((ls.map rowL).drop a).all fun x=>x.length == 6)=true:=by rw [← List.map_drop]; exact rows6 _
 have h6t:(((ls.map rowL).take a).all fun x=>x.length == 6)=true:=by rw [← List.map_take]; exact rows6 _
 have hlen:(ls.map rowL).length=ls.length:=List.length_map ..
 have hdn:¬(ls.map rowL).drop a=[]:=by
  intro e
  have:=congrArg List.length e
  simp at this
  omega
 have hdl:((ls.map rowL).drop a).length=ls.length - a:=by simp
 have htl:((ls.map rowL).take a).length=a:=by simp; omega
 unfold cV at *
 generalize ls.map rowL=rows at *
 have b1:a≤ls.length:=by omega
 have b2:ls.length - a≤1048576:=by omega
 have b3:¬(ls.length - a=0):=by omega
 have b4:ls.length - a+a=ls.length:=by omega
 have b5:ls.length≤1048576:=by omega
 have hrt:rows.take ls.length=rows:=List.take_of_length_le (by omega)
 generalize hD:rows.drop a=D at *
 generalize hT:rows.take a=T at *
 rcases Nat.eq_zero_or_pos a with h0 | h0
 · subst h0
   have hT0:T=[]:=List.length_eq_zero_iff.1 htl
   subst hT0
   have hD0:D=rows:=by rw [← hD]; rfl
   subst hD0
   have hdr:D.drop ls.length=[]:=List.drop_eq_nil_of_le (by omega)
   simp [hlen,sr_imm,h6,hdn,b5,appendRowsD,hrt,hdr]
   simp at hKv
   exact endK hKv [(1,9)] (by simp [hrs])
 · have b6:¬ls.length≤ls.length - a:=by omega
   have b7:¬ls.length - a+a≤ls.length - a:=by omega
   have hDt:D.take (ls.length - a)=D:=List.take_of_length_le (by omega)
   simp [hlen,sr_imm,h6,h6d,h6t,hdn,b1,b2,b5,appendRowsD,hrt,hD,hT,hdl,htl,b4,b6,b7,hDt]
   exact endK hKv [(1,14)] (by simp [hrr])
def revR (ls:List Lt) (t:Nat):List Lt:=ls.reverse.take t
def revD (ls:List Lt) (t:Nat):List Bool:=(List.range t).map fun k=>!down ls (ls.length - 1 - k)
theorem revR_succ {ls:List Lt} {t:Nat} (h:t<ls.length):(revR ls (t+1)).map rowL=(revR ls t).map rowL++[rowL (at' ls (ls.length - 1 - t))]:=by
 unfold revR
 have h':t<ls.reverse.length:=by simpa using h
 rw [List.take_add_one,List.getElem?_eq_getElem h',Option.toList_some,List.map_append,List.map_cons,List.map_nil,← at'_rev h,at',List.getD,List.getElem?_eq_getElem h']
 rfl
theorem revD_succ (ls:List Lt) (t:Nat):bls (revD ls (t+1))=bls (revD ls t)++[[.bool (!down ls (ls.length - 1 - t))]]:=by simp [revD,List.range_succ,bls]
theorem revD_length (ls:List Lt) (t:Nat):(revD ls t).length=t:=by simp [revD]
theorem revD_get {ls:List Lt} {t j:Nat} (h:j<t):(revD ls t)[j]? = some (!down ls (ls.length - 1 - j)):=by
 unfold revD
 rw [List.getElem?_map,List.getElem?_range h]
 rfl
theorem first_of {p:Nat→Bool}:∀ {n:Nat},(∃ i,i<n∧p i=true) → ∃ i,i<n∧p i=true ∧ ∀ j,j<i→p j=false
 | 0,⟨i,h,_⟩=>by omega
 | n+1,⟨i,h,hp⟩=>by
  by_cases hx:∃ i,i<n∧p i=true
  · obtain⟨i,h1,h2,h3⟩:=first_of hx
    exact⟨i,by omega,h2,h3⟩
  · have hin:i=n:=by
     rcases Nat.lt_or_ge i n with h1 | h1
     · exact absurd ⟨i,h1,hp⟩ hx
     · omega
    subst hin
    refine⟨i,by omega,hp,fun j hj=>?_⟩
    cases hpj:p j with
    | false=>rfl
    | true=>exact absurd ⟨j,hj,hpj⟩ hx
set_option maxRecDepth 100000 in
set_option maxHeartbeats 8000000 in
theorem c79v (f:Int) (ls:List Lt) (hv:ValR f ls) (h0:ls≠[]):PCall Tryz.prog 120 [cV f ls] (cV f (backN ls)):=by
 refine PCall_F hm 4 Tryz.func120 cf79 rfl rfl (by simp [closedL,AVal.closed,closed_rows]) (by simp [AVal.closed,closedL,closed_rows]) fun K hK=>?_
 have hl:ls.length≤1000:=by have:=hv.len; omega
 have hKv:=hK _ _ (fz_cV f (backN ls))
 clear hK
 obtain⟨i0,hi0,hip,hin⟩:=first_of (hv.bk h0)
 have hbk:=back_at hi0 hip hin
 have h115:=c115 f ls.reverse (revD ls ls.length) i0 (by rw [List.length_reverse]; exact hl) (by rw [revD_length,List.length_reverse]) (by rw [List.length_reverse]; exact hi0)
  (by simp only [bkC,Bool.and_eq_true] at hip; exact hip.1) (by rw [revD_get hi0]; simp only [bkC,Bool.and_eq_true] at hip; rw [hip.2]) (fun j hj hp=>by
    have:=hin j hj
    simp only [bkC,hp,Bool.true_and] at this
    rw [revD_get (by omega),this])
 rw [List.length_reverse,← hbk] at h115
 rw [backN_length] at hKv
 have hlp:0<ls.length:=by omega
 have h68:=fun i hi=>c68 f ls i hl hi
 have hRs:=fun t ht=>revR_succ (ls:=ls) (t:=t) ht
 have hRn:(revR ls ls.length).map rowL=ls.reverse.map rowL:=by unfold revR; rw [List.take_of_length_le (by simp)]
 rw [← hRn] at h115
 have hRr:∀ t q,renLL q ((revR ls t).map rowL)=(revR ls t).map rowL:=fun t q=>renLL_closed q _ (closed_rows _)
 have hRl:∀ t,t≤ls.length→((revR ls t).map rowL).length=t:=fun t ht=>by rw [List.length_map,revR,List.length_take,List.length_reverse]; omega
 have hR0:(revR ls 0).map rowL=[]:=by simp [revR]
 have hlen:(ls.map rowL).length=ls.length:=List.length_map ..
 have hrg:=fun i hi=>get_row ls (i:=i) hi
 have hrr:∀ q,renLL q (ls.map rowL)=ls.map rowL:=fun q=>renLL_closed q _ (closed_rows ls)
 have hrT:∀ q,renLL q ((backN ls).map rowL)=(backN ls).map rowL:=fun q=>renLL_closed q _ (closed_rows _)
 have hDs:=revD_succ ls
 have hDr:∀ t q,renLL q (bls (revD ls t))=bls (revD ls t):=fun t q=>ren_bls q _
 have hDl:∀ t,(bls (revD ls t)).length=t:=fun t=>by rw [bls,List.length_map,revD_length]
 have hD0:bls (revD ls 0)=[]:=rfl
 obtain⟨D,hD⟩:∃ D:Nat→List (List AVal),(fun i=>bls (revD ls i))=D:=⟨_,rfl⟩
 have hDi:∀ i,bls (revD ls i)=D i:=fun i=>by rw [← hD]
 simp only [hDi] at hDs hDr hDl hD0 h115
 clear hD hDi
 obtain⟨R,hR⟩:∃ R:Nat→List (List AVal),(fun i=>(revR ls i).map rowL)=R:=⟨_,rfl⟩
 have hRi:∀ i,(revR ls i).map rowL=R i:=fun i=>by rw [← hR]
 simp only [hRi] at hRs hRr hRl hR0 h115
 clear hR hRi hRn
 unfold cV at *
 generalize ls.map rowL=rows at *
 generalize (backN ls).map rowL=TR at *
 have hw0:IntKind.i64.wrap ((ls.length:Int) - 1)=(ls.length:Int) - 1:=wrap64 (by omega) (by omega)
 simp [hlen,hw0]
 refine wZ_loop (α:=Nat) (fun t=>[(5,.int .i64 ((ls.length:Int) - 1 - (t:Nat))),(4,slV 5 (D t)),(3,.ptr 3 0 0),(2,.ptr 2 0 0),(1,.ptr 1 0 0)])
  (fun t=>⟨(3,.cells 2 [[.int .i64 f,slV 4 (R t)]]) :: (2,.cells 2 [[.int .i64 0,.nilSl]]) :: (1,.cells 2 [[.int .i64 f,.imm rows]]) :: blV 4 6 (R t) (blV 5 1 (D t) []),6⟩)
  (fun t=>ls.length - t) (fun t=>t≤ls.length) 0 [(3,6)] (by simp [hrr,hR0,hD0]) (by simp) ?_
 intro t ht N hN
 try simp only at ht hN ⊢
 by_cases hlt:t<ls.length
 · obtain⟨j,hj⟩:∃ j,ls.length - 1 - t=j:=⟨_,rfl⟩
   have hjl:j<ls.length:=by omega
   have hji:(ls.length:Int) - 1 - (t:Int)=(j:Int):=by omega
   have hr:=hrg j hjl
   obtain⟨hrl,hr2⟩:=getE hr
   have hw1:IntKind.i64.wrap ((j:Int) - 1)=(j:Int) - 1:=wrap64 (by omega) (by omega)
   have hj1:(ls.length:Int) - 1 - ((t+1:Nat):Int)=(j:Int) - 1:=by omega
   have h68':=h68 j (by omega)
   have hN':=hN (t+1)
   have hRt:=hRs t hlt
   have hDt:=hDs t
   rw [hj] at hRt hDt
   rw [hRt,hDt,hj1] at hN'
   have b1:(D t).length≤1048575:=by rw [hDl]; omega
   have b2:(R t).length≤1048575:=by rw [hRl t (by omega)]; omega
   have hrt:=hRr t
   have hdt:=hDr t
   have hj0:(0:Int)≤(j:Int):=by omega
   have l6:(rowL (at' ls j)).length=6:=rfl
   have hrL:∀ q,renL q (rowL (at' ls j))=rowL (at' ls j):=fun q=>rfl
   simp only [hji]
   simp only [rowL] at hr hr2 hN'
   simp [hj0,hr,hr2,hjl,hlen,b2]
   refine SC_pure h68' ?_
   simp [b1,hw1]
   have hrL':∀ q,renLL q (R t++[[.int .i64 (at' ls j).k,.int .i64 (at' ls j).g,.int .i64 (at' ls j).r,.int .i64 (at' ls j).i,.int .i64 (at' ls j).s,.bool (at' ls j).o]])=R t++[[.int .i64 (at' ls j).k,.int .i64 (at' ls j).g,.int .i64 (at' ls j).r,.int .i64 (at' ls j).i,.int .i64 (at' ls j).s,.bool (at' ls j).o]]:=fun q=>by
    have:=hRr (t+1) q
    rw [hRt] at this
    exact this
   exact hN' [(4,16),(5,25)] _ _ (by omega) (by omega) (by simp +contextual [hrr,hrt,hdt,hrL'])
 · have hie:t=ls.length:=by omega
   subst hie
   have e1:(ls.length:Int) - 1 - (ls.length:Int) = -1:=by omega
   have hDn:¬D ls.length=[]:=by
    intro e
    have:=hDl ls.length
    rw [e] at this
    simp at this
    omega
   have hRn:¬R ls.length=[]:=by
    intro e
    have:=hRl ls.length (Nat.le_refl _)
    rw [e] at this
    simp at this
    omega
   have hDll:=hDl ls.length
   have hRll:=hRl ls.length (Nat.le_refl _)
   have hDr':=hDr ls.length
   have hRr':=hRr ls.length
   simp [e1,slV_ne,hDn,hDll,hRn,hRll]
   refine SC_ctr h115 [(1,4),(2,5)] (by simp) (by simp [blV_ne,hDn,hRn,hRr',hDr']) (by simp) ?_
   rintro r sm ⟨rfl,rfl⟩
   simp [hrr,hrT]
   exact endK hKv [(1,12)] (by simp [hrT])
end Go.Known
end
section
namespace Go.Known
open Go Go.AE Go.Proofs
open Go.Plain
theorem idx1_at {x:Int}:∀ {met:List Int} {i:Nat},met[i]? = some x→(∀ k,k<i→met[k]? ≠ some x)→idx1 x met=i+1
 | [],i,h,_=>by simp at h
 | y :: r,0,h,_=>by
  have:x=y:=by simpa using h.symm
  simp [idx1,this]
 | y :: r,i+1,h,hn=>by
  have h0:x≠y:=fun e=>hn 0 (by omega) (by simp [e])
  have:=idx1_at (met:=r) (i:=i) (by simpa using h) (fun k hk=>by have:=hn (k+1) (by omega); simpa using this)
  simp only [idx1,if_neg h0,this]
  rfl
theorem idx1_none {x:Int}:∀ {met:List Int},(∀ k,k<met.length→met[k]? ≠ some x)→idx1 x met=0
 | [],_=>rfl
 | y :: r,hn=>by
  have h0:x≠y:=fun e=>hn 0 (by simp) (by simp [e])
  have:=idx1_none (met:=r) (fun k hk=>by have:=hn (k+1) (by simp; omega); simpa using this)
  simp only [idx1,if_neg h0,this,if_true]
set_option maxHeartbeats 4000000 in
theorem c70s (met:List Int) (x:Int) (h:met.length≤1000):Ctr Tryz.prog 140 [slV 1 (irow met),.int .i64 x] ⟨blV 1 1 (irow met) [],2⟩ fun v m=>v=.int .i64 ((idx1 x met:Nat) - 1:Int)∧m=⟨blV 1 1 (irow met) [],2⟩:=by
 refine ctr_P hm Tryz.func140 cf70 rfl rfl fun K hK=>?_
 have hK':=hK _ _ ⟨rfl,rfl⟩
 clear hK
 have hml:(irow met).length=met.length:=irow_length met
 have hmg:∀ (i:Nat) (y:Int),met[i]? = some y→(irow met)[i]? = some [.int .i64 y]:=fun i y=>irow_get
 have hmr:∀ q,renLL q (irow met)=irow met:=fun q=>renLL_closed q _ (closed_irow met)
 simp
 refine wZ_loop (α:=Nat) (fun i=>[(5,.int .i64 i),(1,.int .i64 x),(0,slV 1 (irow met))]) (fun _=>⟨blV 1 1 (irow met) [],2⟩) (fun i=>met.length - i) (fun i=>i≤met.length ∧ ∀ k,k<i→met[k]? ≠ some x) 0 [] (by simp +contextual [hmr]) (by simp) ?_
 rintro i ⟨hi,hI⟩ N hN
 try simp only at hi hI hN ⊢
 by_cases hlt:i<met.length
 · obtain⟨y,hy⟩:∃ y,met[i]? = some y:=⟨_,List.getElem?_eq_getElem hlt⟩
   have hg:=hmg i y hy
   obtain⟨hgl,hg2⟩:=getE hg
   have hw:IntKind.i64.wrap ((i:Int)+1)=(i:Int)+1:=wrap64 (by omega) (by omega)
   have hne:¬irow met=[]:=by intro e; rw [e] at hml; simp at hml; omega
   by_cases hyx:y=x
   · have hix:=idx1_at (x:=x) (met:=met) (i:=i) (by rw [hy,hyx]) hI
     rw [hix] at hK'
     have hK2:K (.int .i64 (i:Int)) ⟨blV 1 1 (irow met) [],2⟩:=by
      have e:(((i+1:Nat):Int) - 1)=(i:Int):=by omega
      rw [e] at hK'
      exact hK'
     simp [hlt,hml,hg,hg2,hyx,slV_ne,blV_ne,hne]
     exact endK hK2 [] (by simp +contextual [hmr,blV_ne,hne])
   · have hN':=hN (i+1) []
     simp [hlt,hml,hg,hg2,hyx,hw,slV_ne,blV_ne,hne]
     exact hN' _ _ (by omega) ⟨by omega,fun k hk=>by
      rcases Nat.lt_succ_iff_lt_or_eq.1 hk with h1 | h1
      · exact hI k h1
      · subst h1; rw [hy]; intro e; cases e; exact hyx rfl⟩ (by simp +contextual [hmr,slV_ne,blV_ne,hne])
 · have hix:=idx1_none (x:=x) (met:=met) (fun k hk=>hI k (by omega))
   rw [hix] at hK'
   have hK2:K (.int .i64 (-1)) ⟨blV 1 1 (irow met) [],2⟩:=hK'
   simp [hlt,hml]
   exact endK hK2 [] (by simp +contextual [hmr])
@[local simp] theorem memN_if {p : Prop} [Decidable p] {b k : Nat} (h : b ≠ k) : memN b (if p then [] else [k]) = false := by
 split<;>simp [memN,h]
@[local simp] theorem bif_blV {k w : Nat} {E : List (List AVal)} : (bif memN k (if E = [] then [] else [k]) then [] else blV k w E []) = [] := by
 by_cases h:E=[]
 · subst h; rfl
 · simp [h,memN]
theorem idx1_metS {met:List Int} {l:Lt} (hk:l.k=2):idx1 l.i (metS met l)≠0∧metS met l≠[]:=by
 unfold metS
 by_cases h:idx1 l.i met=0
 · rw [if_pos ⟨hk,h⟩,idx1_new h]
   exact⟨by omega,by simp⟩
 · rw [if_neg (fun e=>h e.2)]
   refine⟨h,fun e=>?_⟩
   rw [e] at h
   exact h rfl
set_option maxRecDepth 100000 in
set_option maxHeartbeats 8000000 in
theorem c78g (f:Int) (ls:List Lt) (h0:ls≠[]) (hl:ls.length≤1000):PCall Tryz.prog 119 [cV f ls] (cV f (renN ls)):=by
 refine PCall_F hm 4 Tryz.func119 cf78 rfl rfl (by simp [closedL,AVal.closed,closed_rows]) (by simp [AVal.closed,closedL,closed_rows]) fun K hK=>?_
 have hKv:=hK _ _ (fz_cV f (renN ls))
 clear hK
 have hnl:=renN_length ls
 rw [hnl] at hKv
 have hlp:0<ls.length:=List.length_pos_iff.2 h0
 have h114:=c114s f ls h0 hl
 have h70:=fun met x hm=>c70s met x hm
 have hMg:=fun i hi=>mixL_get hnl (i:=i) hi
 have hMs:=fun i hi=>mixL_set hnl (i:=i) hi
 have hMe:=fun i hi hg=>mixL_same hnl (i:=i) hi hg
 have hMl:∀ i,((mixL (renN ls) ls i).map rowL).length=ls.length:=fun i=>by rw [List.length_map,mixL_len hnl]
 have hMc:∀ i q,renLL q ((mixL (renN ls) ls i).map rowL)=(mixL (renN ls) ls i).map rowL:=fun i q=>renLL_closed q _ (closed_rows _)
 have hM0:(mixL (renN ls) ls 0).map rowL=ls.map rowL:=by rw [mixL_zero]
 have hMn:(mixL (renN ls) ls ls.length).map rowL=(renN ls).map rowL:=by rw [mixL_all hnl]
 rw [← hMn] at hKv
 have hlen:(ls.map rowL).length=ls.length:=List.length_map ..
 have hrg:=fun i hi=>get_row ls (i:=i) hi
 have hrr:∀ q,renLL q (ls.map rowL)=ls.map rowL:=fun q=>renLL_closed q _ (closed_rows ls)
 obtain⟨M,hM⟩:∃ M:Nat→List (List AVal),(fun i=>(mixL (renN ls) ls i).map rowL)=M:=⟨_,rfl⟩
 have hMi:∀ i,(mixL (renN ls) ls i).map rowL=M i:=fun i=>by rw [← hM]
 simp only [hMi] at hMg hMs hMe hMl hMc hM0 hMn hKv
 clear hM hMi
 unfold cV at *
 generalize ls.map rowL=rows at *
 have hi0:irow (mets ls 0)=[]:=rfl
 simp
 refine SC_ctr h114 [] (by simp [hrr]) (by simp) (by simp) ?_
 rintro r sm ⟨rfl,rfl⟩
 simp [hrr,hlen]
 refine wZ_loop (α:=Nat) (fun i=>[(5,.int .i64 i),(4,slV 5 (irow (mets ls i))),(3,.ptr 3 0 0),(2,.ptr 2 0 0),(1,.ptr 1 0 0)])
  (fun i=>⟨(3,.cells 2 [[.int .i64 f,.sl 4 0 ls.length]]) :: (4,.cells 6 (M i)) :: (2,.cells 2 [[.int .i64 0,.nilSl]]) :: (1,.cells 2 [[.int .i64 f,.imm rows]]) :: blV 5 1 (irow (mets ls i)) [],6⟩)
  (fun i=>ls.length - i) (fun i=>i≤ls.length) 0 [(3,5),(4,7)] (by simp [hrr,hM0,hi0]) (by simp) ?_
 intro i hi N hN
 try simp only at hi hN ⊢
 by_cases hlt:i<ls.length
 · have hg:=hMg i hlt
   obtain⟨hgl,hg2⟩:=getE hg
   have hr:=hrg i hlt
   obtain⟨hrl,hr2⟩:=getE hr
   have hset:=hMs i hlt
   have hw:IntKind.i64.wrap ((i:Int)+1)=(i:Int)+1:=wrap64 (by omega) (by omega)
   have hlM:=hMl i
   have hms:=mets_succ hlt
   have hgn:=renN_get hlt
   have hml:=mets_length ls i
   have hN':=hN (i+1)
   rw [hgn] at hset
   have hmr:∀ q,renLL q (irow (mets ls i))=irow (mets ls i):=fun q=>renLL_closed q _ (closed_irow _)
   have hmr1:∀ q,renLL q (irow (mets ls (i+1)))=irow (mets ls (i+1)):=fun q=>renLL_closed q _ (closed_irow _)
   by_cases hk:(at' ls i).k=2
   · have h70a:=h70 (mets ls i) (at' ls i).i (by omega)
     obtain⟨hx1,hx2⟩:=idx1_metS (met:=mets ls i) hk
     rw [← hms] at hx1 hx2
     have h70b:=h70 (mets ls (i+1)) (at' ls i).i (by have:=mets_length ls (i+1); omega)
     have hre:renS (mets ls i) (at' ls i)={ at' ls i with i:=(idx1 (at' ls i).i (mets ls (i+1)):Nat) }:=by unfold renS; rw [if_pos hk,hms]
     rw [hre] at hset
     have hwb:IntKind.i64.wrap ((idx1 (at' ls i).i (mets ls (i+1)):Int) - 1+1)=(idx1 (at' ls i).i (mets ls (i+1)):Int):=by
      have:=idx1_le (x:=(at' ls i).i) (met:=mets ls (i+1))
      have:=mets_length ls (i+1)
      rw [wrap64 (by omega) (by omega)]
      omega
     have hwb2:IntKind.i64.wrap (idx1 (at' ls i).i (mets ls (i+1)):Int)=(idx1 (at' ls i).i (mets ls (i+1)):Int):=by
      have:=idx1_le (x:=(at' ls i).i) (met:=mets ls (i+1))
      have:=mets_length ls (i+1)
      exact wrap64 (by omega) (by omega)
     have hne:¬irow (mets ls (i+1))=[]:=by simpa [irow] using hx2
     simp only [rowL,hk] at hset
     rw [slV_ne hne,blV_ne hne] at h70b
     by_cases hx:idx1 (at' ls i).i (mets ls i)=0
     · have hm1:metS (mets ls i) (at' ls i)=mets ls i++[(at' ls i).i]:=by unfold metS; rw [if_pos ⟨hk,hx⟩]
       rw [hm1] at hms
       have hrs:irow (mets ls i)++[[.int .i64 (at' ls i).i]]=irow (mets ls (i+1)):=by rw [hms,irow_snoc]
       rw [hx] at h70a
       have hil:(irow (mets ls i)).length≤1048575:=by rw [irow_length]; omega
       have hil1:(irow (mets ls i)).length+1=(irow (mets ls (i+1))).length:=by rw [← hrs]; simp
       generalize idx1 (at' ls i).i (mets ls (i+1))=jx at *
       generalize irow (mets ls (i+1))=E1 at *
       generalize irow (mets ls i)=E0 at *
       simp [hlt,hg,hg2,hlM,hr,hr2,hlen,rowL,hk,hw]
       refine SC_ctr h70a [(1,5)] (by simp) (by simp +contextual [hmr]) (by simp +contextual) ?_
       rintro r sm ⟨rfl,rfl⟩
       simp [hlt,hg,hg2,hlM,hr,hr2,hlen,rowL,hk,hw,hil,hmr,hrs]
       refine DC_ctr h70b (by simp) [(1,35)] (by simp [hil1]) (by simp [EqRB,hmr1]) (by simp) (fun s=>by simp) (by simp) ?_
       simp [hlt,hg,hg2,hlM,hr,hr2,hlen,rowL,hk,hw,hwb,hwb2,hmr1]
       exact hN' [(5,35)] _ _ (by omega) (by omega) (by simp +contextual [hrr,hMc,hset,hmr1,slV_ne,blV_ne,hne,hil1])
     · have hm1:metS (mets ls i) (at' ls i)=mets ls i:=by unfold metS; rw [if_neg (fun e=>hx e.2)]
       rw [hm1] at hms
       have hxi:¬((idx1 (at' ls i).i (mets ls i):Nat):Int) - 1<0:=by omega
       rw [hms] at h70b hwb hwb2 hset hN' hne
       rw [slV_ne hne,blV_ne hne] at h70a
       generalize idx1 (at' ls i).i (mets ls i)=jx at *
       rw [slV_ne hne]
       generalize irow (mets ls i)=E0 at *
       simp [hlt,hg,hg2,hlM,hr,hr2,hlen,rowL,hk,hw]
       refine SC_ctr h70a [(1,5)] (by simp) (by simp [hmr,blV_ne,hne]) (by simp) ?_
       rintro r sm ⟨rfl,rfl⟩
       simp [hlt,hg,hg2,hlM,hr,hr2,hlen,rowL,hk,hw,hmr,hxi,blV_ne,hne]
       refine DC_ctr h70b (by simp) [(1,5)] (by simp) (by simp [EqRB,hmr]) (by simp) (fun s=>by simp) (by simp) ?_
       simp [hlt,hg,hg2,hlM,hr,hr2,hlen,rowL,hk,hw,hwb,hwb2,hmr]
       exact hN' [] _ _ (by omega) (by omega) (by simp +contextual [hrr,hMc,hset,hmr,slV_ne,blV_ne,hne])
   · have hm1:metS (mets ls i) (at' ls i)=mets ls i:=by unfold metS; rw [if_neg (fun e=>hk e.1)]
     have hre:renS (mets ls i) (at' ls i)=at' ls i:=by unfold renS; rw [if_neg hk]
     rw [hm1] at hms
     have hsame:=hMe i hlt (by rw [hgn,hre])
     rw [hms,hsame] at hN'
     generalize irow (mets ls i)=E0 at *
     simp [hlt,hg,hg2,hlM,hr,hr2,hlen,rowL,hk,hw]
     exact hN' [] _ _ (by omega) (by omega) (by simp +contextual [hrr,hMc,hmr])
 · have hie:i=ls.length:=by omega
   subst hie
   simp [hlt]
   exact endK hKv [(1,4)] (by simp [hrr,hMc])
end Go.Known
end
section
namespace Go.Known
open Go Go.AE Go.Proofs
open Go.Plain
def numL (l:Lt):List Int:=[l.k,l.g,l.r,l.i,if l.o then 1 else 0,l.s]
def ltI:List Int→List Int→Bool
 | a :: r,b :: s=>if a=b then ltI r s else decide (a<b)
 | _,_=>false
theorem ltI_num (a b:Lt):ltI (numL a) (numL b)=ltL a b:=by
 unfold ltL numL
 simp only [ltI]
 by_cases h1:a.k=b.k
 · by_cases h2:a.g=b.g
   · by_cases h3:a.r=b.r
     · by_cases h4:a.i=b.i
       · by_cases h5:a.o=b.o
         · by_cases h6:a.s=b.s
           · simp [h1,h2,h3,h4,h5,h6]
           · simp [h1,h2,h3,h4,h5,h6]
         · cases ha:a.o<;>cases hb:b.o<;>rw [ha,hb] at h5<;>simp [h1,h2,h3,h4] at h5 ⊢
       · simp [h1,h2,h3,h4]
     · simp [h1,h2,h3]
   · simp [h1,h2]
 · simp [h1]
theorem ltI_same {a b:List Int} {i:Nat} {x:Int} (ha:a[i]? = some x) (hb:b[i]? = some x):ltI (a.drop i) (b.drop i)=ltI (a.drop (i+1)) (b.drop (i+1)):=by
 obtain⟨ha1,ha2⟩:=getE ha
 obtain⟨hb1,hb2⟩:=getE hb
 rw [List.drop_eq_getElem_cons ha1,List.drop_eq_getElem_cons hb1,ha2,hb2]
 simp only [ltI,if_true]
theorem ltI_diff {a b:List Int} {i:Nat} {x y:Int} (ha:a[i]? = some x) (hb:b[i]? = some y) (h:¬x=y):ltI (a.drop i) (b.drop i)=decide (x<y):=by
 obtain⟨ha1,ha2⟩:=getE ha
 obtain⟨hb1,hb2⟩:=getE hb
 rw [List.drop_eq_getElem_cons ha1,List.drop_eq_getElem_cons hb1,ha2,hb2]
 simp only [ltI,if_neg h]
theorem ltI_end {a b:List Int} {i:Nat} (ha:a.length≤i):ltI (a.drop i) (b.drop i)=false:=by
 rw [List.drop_eq_nil_of_le ha]
 rfl
theorem c117 (l:Lt):PCall Tryz.prog 163 [.agg (rowL l)] (.imm (irow (numL l))):=by
 refine PCall_F hm 2 Tryz.func163 cf117 rfl rfl (by simp [closedL,AVal.closed,rowL]) (by simp [AVal.closed,closed_irow]) fun K hK=>?_
 have hKv:=hK (.sl 1 0 6) ⟨[(1,.cells 1 (irow (numL l)))],2⟩ (by
  have:=freeze_rows (n:=1) (get:=SMem.get ⟨[(1,.cells 1 (irow (numL l)))],2⟩) (b:=1) (k:=1) (rows:=irow (numL l)) (by simp) (scal_irow _)
  exact this)
 clear hK
 have hr:∀ q,renLL q (irow (numL l))=irow (numL l):=fun q=>renLL_closed q _ (closed_irow _)
 unfold numL at *
 cases ho:l.o with
 | true=>
  simp only [ho,if_true] at hKv hr
  simp [rowL,ho]
  exact endK hKv [(1,18)] (by simp [irow])
 | false=>
  simp only [ho,Bool.false_eq_true,if_false] at hKv hr
  simp [rowL,ho]
  exact endK hKv [(1,17)] (by simp [irow])
set_option maxHeartbeats 4000000 in
theorem c116 (a b:List Int) (h:a.length≤b.length) (hb:b.length≤1000):PCall Tryz.prog 162 [.imm (irow a),.imm (irow b)] (.bool (ltI a b)):=by
 refine PCall_1 hm Tryz.func162 cf116 rfl rfl (by simp [closedL,AVal.closed,closed_irow]) trivial fun K hK=>?_
 have hra:∀ q,renLL q (irow a)=irow a:=fun q=>renLL_closed q _ (closed_irow a)
 have hrb:∀ q,renLL q (irow b)=irow b:=fun q=>renLL_closed q _ (closed_irow b)
 have hla:(irow a).length=a.length:=irow_length a
 have hlb:(irow b).length=b.length:=irow_length b
 have hga:∀ (i:Nat) (y:Int),a[i]? = some y→(irow a)[i]? = some [.int .i64 y]:=fun i y=>irow_get
 have hgb:∀ (i:Nat) (y:Int),b[i]? = some y→(irow b)[i]? = some [.int .i64 y]:=fun i y=>irow_get
 generalize irow a=A at *
 generalize irow b=B at *
 simp
 refine wZ_loop (α:=Nat) (fun i=>[(5,.int .i64 i),(1,.imm B),(0,.imm A)]) (fun _=>⟨[],1⟩) (fun i=>a.length - i) (fun i=>i≤a.length∧ltI (a.drop i) (b.drop i)=ltI a b) 0 [] (by simp [hra,hrb]) (by simp) ?_
 rintro i ⟨hi,hI⟩ N hN
 try simp only at hi hN ⊢
 by_cases hlt:i<a.length
 · obtain⟨x,hx⟩:∃ x,a[i]? = some x:=⟨_,List.getElem?_eq_getElem hlt⟩
   obtain⟨y,hy⟩:∃ y,b[i]? = some y:=⟨_,List.getElem?_eq_getElem (by omega)⟩
   have ga:=hga i x hx
   have gb:=hgb i y hy
   obtain⟨_,ga2⟩:=getE ga
   obtain⟨_,gb2⟩:=getE gb
   have hw:IntKind.i64.wrap ((i:Int)+1)=(i:Int)+1:=wrap64 (by omega) (by omega)
   by_cases hxy:x=y
   · subst hxy
     have hN':=hN (i+1) []
     rw [ltI_same hx hy] at hI
     simp [hlt,hla,ga,gb,ga2,gb2,hw]
     exact hN' _ _ (by omega) ⟨by omega,hI⟩ (by simp [hra,hrb])
   · rw [ltI_diff hx hy hxy] at hI
     rw [← hI] at hK
     simp [hlt,hla,ga,gb,ga2,gb2,hw,hxy]
     exact endK hK [] (by simp)
 · rw [ltI_end (by omega)] at hI
   rw [← hI] at hK
   simp [hlt,hla]
   exact endK hK [] (by simp)
set_option maxRecDepth 100000 in
set_option maxHeartbeats 8000000 in
theorem c81v (f g:Int) (a b:List Lt) (h:a.length≤b.length) (hb:b.length≤1000):PCall Tryz.prog 122 [cV f a,cV g b] (.bool (ltLs a b)):=by
 refine PCall_1 hm Tryz.func122 cf81 rfl rfl (by simp [closedL,AVal.closed,closed_rows]) trivial fun K hK=>?_
 have hra:∀ q,renLL q (a.map rowL)=a.map rowL:=fun q=>renLL_closed q _ (closed_rows a)
 have hrb:∀ q,renLL q (b.map rowL)=b.map rowL:=fun q=>renLL_closed q _ (closed_rows b)
 have hla:(a.map rowL).length=a.length:=List.length_map ..
 have hlb:(b.map rowL).length=b.length:=List.length_map ..
 have hga:=fun i hi=>get_row a (i:=i) hi
 have hgb:=fun i hi=>get_row b (i:=i) hi
 unfold cV at *
 generalize a.map rowL=A at *
 generalize b.map rowL=B at *
 simp
 refine wZ_loop (α:=Nat) (fun i=>[(5,.int .i64 i),(3,.ptr 2 0 0),(2,.ptr 1 0 0)]) (fun _=>⟨[(1,.cells 2 [[.int .i64 f,.imm A]]),(2,.cells 2 [[.int .i64 g,.imm B]])],3⟩) (fun i=>a.length - i) (fun i=>i≤a.length∧ltLs (a.drop i) (b.drop i)=ltLs a b) 0 [] (by simp [hra,hrb]) (by simp) ?_
 rintro i ⟨hi,hI⟩ N hN
 try simp only at hi hN ⊢
 by_cases hlt:i<a.length
 · have ga:=hga i hlt
   have gb:=hgb i (by omega)
   obtain⟨_,ga2⟩:=getE ga
   obtain⟨_,gb2⟩:=getE gb
   have hw:IntKind.i64.wrap ((i:Int)+1)=(i:Int)+1:=wrap64 (by omega) (by omega)
   have he:=ne_rowL (at' a i) (at' b i)
   have h117a:=c117 (at' a i)
   have h117b:=c117 (at' b i)
   have h116:=c116 (numL (at' a i)) (numL (at' b i)) (by simp [numL]) (by simp [numL])
   rw [ltI_num] at h116
   have l6a:(rowL (at' a i)).length=6:=rfl
   have l6b:(rowL (at' b i)).length=6:=rfl
   have t6a:(rowL (at' a i)).take 6=rowL (at' a i):=rfl
   have t6b:(rowL (at' b i)).take 6=rowL (at' b i):=rfl
   by_cases hab:at' a i=at' b i
   · have hN':=hN (i+1) []
     rw [hab] at he
     rw [decide_eq_true rfl] at he
     have hs:=ltLs_same hlt (by omega:i<b.length) hab
     rw [hs] at hI
     rw [hab] at ga ga2
     generalize rowL (at' b i)=rb at *
     simp [hlt,hla,hlb,ga,gb,ga2,gb2,hw,l6b,t6b,he]
     exact hN' _ _ (by omega) ⟨by omega,hI⟩ (by simp [hra,hrb])
   · rw [decide_eq_false hab] at he
     rw [ltLs_diff hlt (by omega) hab] at hI
     rw [← hI] at hK
     generalize rowL (at' a i)=ra at *
     generalize rowL (at' b i)=rb at *
     generalize irow (numL (at' a i))=na at *
     generalize irow (numL (at' b i))=nb at *
     simp [hlt,hla,hlb,ga,gb,ga2,gb2,hw,l6a,l6b,t6a,t6b,he]
     refine DC_pure h117a ?_
     simp [hlt,hla,hlb,ga,gb,ga2,gb2,hw,l6a,l6b,t6a,t6b,FT.indep]
     refine DC_pure h117b ?_
     simp
     refine DC_pure h116 ?_
     simp
     exact endK hK [] (by simp)
 · rw [ltLs_end (by omega)] at hI
   rw [← hI] at hK
   simp [hlt,hla]
   exact endK hK [] (by simp)
set_option maxRecDepth 100000 in
set_option maxHeartbeats 8000000 in
theorem c12v (f g:Int) (a b:List Lt) (ha:a.length≤1000) (hb:b.length≤1000):PCall Tryz.prog 18 [cV f a,cV g b] (.bool (decide (f=g)&&decide (a=b))):=by
 refine PCall_1 hm Tryz.func18 cf12 rfl rfl (by simp [closedL,AVal.closed,closed_rows]) trivial fun K hK=>?_
 have hra:∀ q,renLL q (a.map rowL)=a.map rowL:=fun q=>renLL_closed q _ (closed_rows a)
 have hrb:∀ q,renLL q (b.map rowL)=b.map rowL:=fun q=>renLL_closed q _ (closed_rows b)
 have hla:(a.map rowL).length=a.length:=List.length_map ..
 have hlb:(b.map rowL).length=b.length:=List.length_map ..
 have hga:=fun i hi=>get_row a (i:=i) hi
 have hgb:=fun i hi=>get_row b (i:=i) hi
 unfold cV at *
 generalize a.map rowL=A at *
 generalize b.map rowL=B at *
 by_cases hfg:f=g
 rotate_left
 · rw [decide_eq_false hfg,Bool.false_and] at hK
   simp [hfg]
   exact endK hK [] (by simp)
 subst hfg
 rw [decide_eq_true rfl,Bool.true_and] at hK
 by_cases hl:a.length=b.length
 rotate_left
 · have hne:¬a=b:=fun e=>hl (by rw [e])
   rw [decide_eq_false hne] at hK
   have hl':¬(a.length:Int)=(b.length:Int):=by omega
   simp [hla,hlb,hl,hl']
   exact endK hK [] (by simp)
 simp [hla,hlb,hl]
 refine wZ_loop (α:=Nat) (fun i=>[(5,.int .i64 i),(3,.ptr 2 0 0),(2,.ptr 1 0 0)]) (fun _=>⟨[(1,.cells 2 [[.int .i64 f,.imm A]]),(2,.cells 2 [[.int .i64 f,.imm B]])],3⟩) (fun i=>a.length - i) (fun i=>i≤a.length∧(a.drop i=b.drop i)=(a=b)) 0 [] (by simp [hra,hrb]) (by simp) ?_
 rintro i ⟨hi,hI⟩ N hN
 try simp only at hi hN ⊢
 by_cases hlt:i<a.length
 · have ga:=hga i hlt
   have gb:=hgb i (by omega)
   obtain⟨_,ga2⟩:=getE ga
   obtain⟨_,gb2⟩:=getE gb
   have hw:IntKind.i64.wrap ((i:Int)+1)=(i:Int)+1:=wrap64 (by omega) (by omega)
   have he:=ne_rowL (at' a i) (at' b i)
   have l6a:(rowL (at' a i)).length=6:=rfl
   have l6b:(rowL (at' b i)).length=6:=rfl
   have t6a:(rowL (at' a i)).take 6=rowL (at' a i):=rfl
   have t6b:(rowL (at' b i)).take 6=rowL (at' b i):=rfl
   by_cases hab:at' a i=at' b i
   · have hN':=hN (i+1) []
     rw [hab] at he
     rw [decide_eq_true rfl] at he
     rw [drop_same hlt (by omega) hab] at hI
     rw [hab] at ga ga2
     generalize rowL (at' b i)=rb at *
     simp [hlt,hla,hlb,ga,gb,ga2,gb2,hw,l6b,t6b,he]
     exact hN' _ _ (by omega) ⟨by omega,hI⟩ (by simp [hra,hrb])
   · rw [decide_eq_false hab] at he
     have hne:¬a=b:=by
      rw [← hI]
      exact drop_diff hlt (by omega) hab
     rw [decide_eq_false hne] at hK
     generalize rowL (at' a i)=ra at *
     generalize rowL (at' b i)=rb at *
     simp [hlt,hla,hlb,ga,gb,ga2,gb2,hw,l6a,l6b,t6a,t6b,he]
     exact endK hK [] (by simp)
 · have hie:i=a.length:=by omega
   have hyes:a=b:=by
    rw [← hI,List.drop_eq_nil_of_le (by omega),List.drop_eq_nil_of_le (by omega)]
   rw [decide_eq_true hyes] at hK
   simp [hlt,hla]
   exact endK hK [] (by simp)
end Go.Known
end
