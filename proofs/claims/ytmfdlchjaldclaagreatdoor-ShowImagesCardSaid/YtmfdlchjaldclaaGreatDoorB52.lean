/- Part 52 of the proof: Sq, Sr, Ss. -/
import Derived.Test.YtmfdlchjaldclaaGreatDoorB17
import Derived.Test.YtmfdlchjaldclaaGreatDoorB50
import Derived.Test.YtmfdlchjaldclaaGreatDoorB51
set_option linter.all false
section
namespace Go.Known
open Go Go.AE Go.Proofs
open Go.Plain
def rrun (l w:List Lt):Nat→List Lt
 | 0=>w
 | i+1=>if isP (at' l i)&&down l i then (if ltLs (cand l i) (rrun l w i) then cand l i else rrun l w i) else rrun l w i
theorem nrun_rrun (l w:List Lt):∀ i,nrun l (some w) i=some (rrun l w i)
 | 0=>rfl
 | i+1=>by
  simp only [nrun,rrun,nstep,nrun_rrun l w i]
  split
  · split<;>rfl
  · rfl
theorem ltLs_irr:∀ a:List Lt,ltLs a a=false
 | []=>rfl
 | x :: r=>by simp [ltLs,ltLs_irr r]
theorem nrun_first {ls:List Lt} (hf:isP (at' ls 0)=true):∀ i,nrun ls none (i+1)=nrun ls (some (renN ls)) (i+1)
 | 0=>by
  have hd:down ls 0=true:=rfl
  have hc:cand ls 0=renN ls:=by unfold cand rotL; simp
  simp [nrun,nstep,hf,hd,hc,ltLs_irr]
 | i+1=>by
  have h1:nrun ls none (i+1+1)=nstep ls (i+1) (nrun ls none (i+1)):=rfl
  have h2:nrun ls (some (renN ls)) (i+1+1)=nstep ls (i+1) (nrun ls (some (renN ls)) (i+1)):=rfl
  rw [h1,h2,nrun_first hf i]
def bestS (ls:List Lt):Nat→List Lt
 | 0=>renN ls
 | 1=>rrun ls (renN ls) ls.length
 | _=>normN ls
theorem bestS_succ {ls:List Lt} (h0:ls≠[]) (hf:isP (at' ls 0)=true) {i:Nat} (h:i<2):bestS ls (i+1)=rrun (sides ls i) (bestS ls i) ls.length:=by
 rcases (show i=0∨i=1 by omega) with rfl | rfl
 · rfl
 · have hlp:0<ls.length:=List.length_pos_iff.2 h0
   obtain⟨k,hk⟩:∃ k,ls.length=k+1:=⟨ls.length - 1,by omega⟩
   show normN ls=rrun (backN ls) (rrun ls (renN ls) ls.length) ls.length
   have h1:nrun ls none ls.length=some (rrun ls (renN ls) ls.length):=by rw [hk,nrun_first hf,← hk,nrun_rrun]
   unfold normN normO
   rw [h1,nrun_rrun]
   rfl
theorem rrun_len {l w:List Lt} {n:Nat} (hl:l.length=n) (hw:w.length=n):∀ i,(rrun l w i).length=n
 | 0=>hw
 | i+1=>by
  have:=rrun_len hl hw i
  simp only [rrun]
  split
  · split
    · rw [cand_length,hl]
    · exact this
  · exact this
theorem bestS_len (ls:List Lt) {i:Nat} (h:i<2):(bestS ls i).length=ls.length:=by
 rcases (show i=0∨i=1 by omega) with rfl | rfl
 · exact renN_length ls
 · exact rrun_len rfl (renN_length ls) _
set_option maxRecDepth 100000 in
set_option maxHeartbeats 16000000 in
theorem c48g (f:Int) (ls:List Lt) (hv:ValR f ls) (h0:ls≠[]):PCall Tryz.prog 73 [cV f ls] (cV f (normN ls)):=by
 refine PCall_F hm 4 Tryz.func73 cf48 rfl rfl (by simp [closedL,AVal.closed,closed_rows]) (by simp [AVal.closed,closedL,closed_rows]) fun K hK=>?_
 have h:ls.length≤1000:=by have:=hv.len; omega
 have hlp:0<ls.length:=List.length_pos_iff.2 h0
 have hfst:isP (at' ls 0)=true:=by simp [isP,hv.fst]
 have hKv:=hK (cV f (normN ls)) ⟨[],1⟩ (by
  unfold cV
  rw [freezeV]
  simp only [mapO]
  rw [freeze_imm (scal_rows _)]
  rfl)
 clear hK
 have h78:=c78g f ls h0 h
 have h79:=c79v f ls hv h0
 have hrr:∀ q,renLL q (ls.map rowL)=ls.map rowL:=fun q=>renLL_closed q _ (closed_rows ls)
 have hrb:∀ q,renLL q ((backN ls).map rowL)=(backN ls).map rowL:=fun q=>renLL_closed q _ (closed_rows _)
 have hrn:∀ i q,renLL q ((bestS ls i).map rowL)=(bestS ls i).map rowL:=fun i q=>renLL_closed q _ (closed_rows _)
 have hrs:∀ i q,renLL q ((sides ls i).map rowL)=(sides ls i).map rowL:=fun i q=>renLL_closed q _ (closed_rows _)
 have hsl:∀ i,((sides ls i).map rowL).length=ls.length:=fun i=>by rw [List.length_map,sides_len]
 obtain⟨BK,hBK⟩:∃ BK:List (List AVal),BK=[[.int .i64 f,.imm (ls.map rowL)],[.int .i64 f,.imm ((backN ls).map rowL)]]:=⟨_,rfl⟩
 have hBl:BK.length=2:=by rw [hBK]; rfl
 have hBg:∀ i,i<2→BK[i]? = some [.int .i64 f,.imm ((sides ls i).map rowL)]:=fun i hi=>by
  rw [hBK]
  rcases (show i=0∨i=1 by omega) with rfl | rfl<;>rfl
 have hBr:∀ q,renLL q BK=BK:=fun q=>by
  rw [hBK]
  simp only [renLL,renL,AVal.ren,hrr,hrb]
 have hb0:bestS ls 0=renN ls:=rfl
 have hb2:bestS ls 2=normN ls:=rfl
 unfold cV at *
 rw [← hb0] at h78
 simp
 refine SC_pure h78 ?_
 simp
 refine DC_pure h79 ?_
 simp [FT.indep]
 refine wZ_loop (α:=Nat) (fun k=>[(5,.int .i64 k),(4,.sl 4 0 2),(3,.ptr 3 0 0),(2,.ptr 2 0 0)])
  (fun k=>⟨[(4,.cells 2 BK),(3,.cells 2 [[.int .i64 f,.imm ((bestS ls k).map rowL)]]),(2,.cells 2 [[.int .i64 0,.nilSl]])],5⟩)
  (fun k=>2 - k) (fun k=>k≤2) 0 [(3,5),(4,10)] (by rw [hBK]; simp [hrr,hrb,hrn]) (by simp) ?_
 intro k hk2 N hN
 try simp only at hk2 hN ⊢
 by_cases hlt:k<2
 · have hb:=hBg k hlt
   obtain⟨hbl,hb2'⟩:=getE hb
   have hlt':(k:Int)<2:=by omega
   have hw:IntKind.i64.wrap ((k:Int)+1)=(k:Int)+1:=wrap64 (by omega) (by omega)
   have hbs:=bestS_succ h0 hfst hlt
   have hwl:=bestS_len ls hlt
   have hN':=hN (k+1)
   rw [hbs] at hN'
   have hLl:=sides_len ls k
   have hLR:=hsl k
   have hLr:=hrs k
   have hgL:=fun j hj=>get_row (sides ls k) (i:=j) hj
   have h80:=fun j hj=>c80v f (sides ls k) j hj (by rw [hLl]; exact h)
   have h68:=fun j hj=>c68 f (sides ls k) j (by rw [hLl]; exact h) hj
   have hwr0:=hrn k
   generalize bestS ls k=w0 at *
   generalize sides ls k=L at *
   clear hN hBK
   have h78c:=fun j=>c78g f (rotL j L) (by
    intro e
    have:=congrArg List.length e
    rw [rotL_length,hLl,List.length_nil] at this
    omega) (by rw [rotL_length]; omega)
   have hcand:∀ j,renN (rotL j L)=cand L j:=fun _=>rfl
   simp only [hcand] at h78c
   have hcl:∀ j,(cand L j).length=ls.length:=fun j=>by rw [cand_length,hLl]
   have hrl:=fun j=>rrun_len hLl hwl j
   have h81:=fun j=>c81v f f (cand L j) (rrun L w0 j) (by rw [hcl,hrl]; exact Nat.le_refl _) (by rw [hrl]; exact h)
   have h00:rrun L w0 0=w0:=rfl
   have hcr:∀ j q,renLL q ((cand L j).map rowL)=(cand L j).map rowL:=fun j q=>renLL_closed q _ (closed_rows _)
   have hzr:∀ j q,renLL q ((rrun L w0 j).map rowL)=(rrun L w0 j).map rowL:=fun j q=>renLL_closed q _ (closed_rows _)
   unfold cV at *
   generalize L.map rowL=LR at *
   simp [hlt,hlt',hb,hb2',hBl,hLR]
   refine wZ_loop (α:=Nat) (fun j=>[(7,.int .i64 j),(6,.ptr 5 0 0),(5,.int .i64 k),(4,.sl 4 0 2),(3,.ptr 3 0 0),(2,.ptr 2 0 0)])
    (fun j=>⟨[(5,.cells 2 [[.int .i64 f,.imm LR]]),(4,.cells 2 BK),(3,.cells 2 [[.int .i64 f,.imm ((rrun L w0 j).map rowL)]]),(2,.cells 2 [[.int .i64 0,.nilSl]])],6⟩)
    (fun j=>ls.length - j) (fun j=>j≤ls.length) 0 [(5,11)] (by simp [hBr,hLr,h00,hwr0]) (by simp) ?_
   intro j hj N2 hN2
   try simp only at hj hN2 ⊢
   by_cases hjl:j<ls.length
   · have hg:=hgL j (by omega)
     obtain⟨hgl,hg2⟩:=getE hg
     have hwj:IntKind.i64.wrap ((j:Int)+1)=(j:Int)+1:=wrap64 (by omega) (by omega)
     have hN2':=hN2 (j+1) []
     have hst:rrun L w0 (j+1)=if isP (at' L j)&&down L j then (if ltLs (cand L j) (rrun L w0 j) then cand L j else rrun L w0 j) else rrun L w0 j:=rfl
     have h68':=h68 j (by omega)
     have hzrj:=hzr j
     have hcrj:=hcr j
     by_cases hk:(at' L j).k=1
     · have hP:isP (at' L j)=true:=by simp [isP,hk]
       rw [hP,Bool.true_and] at hst
       cases hd:down L j with
       | false=>
        rw [hd] at hst h68'
        simp only [Bool.false_eq_true,if_false] at hst
        rw [hst] at hN2'
        simp [hjl,hg,hg2,hLR,rowL,hk]
        refine SC_pure h68' ?_
        simp [hwj]
        exact hN2' _ _ (by omega) (by omega) (by simp [hBr,hLr,hzrj])
       | true=>
        rw [hd] at hst h68'
        simp only [if_true] at hst
        have h80':=h80 j (by omega)
        have h78':=h78c j
        have h81':=h81 j
        cases hlw:ltLs (cand L j) (rrun L w0 j) with
        | true=>
         rw [hlw] at hst h81'
         simp only [if_true] at hst
         rw [hst] at hN2'
         generalize (cand L j).map rowL=C1 at *
         generalize (rrun L w0 j).map rowL=W at *
         simp [hjl,hg,hg2,hLR,rowL,hk]
         refine SC_pure h68' ?_
         simp
         refine SC_pure h80' ?_
         simp
         refine SC_pure h78' ?_
         simp
         refine SC_pure h81' ?_
         simp [hwj]
         exact hN2' _ _ (by omega) (by omega) (by simp [hBr,hLr,hcrj])
        | false=>
         rw [hlw] at hst h81'
         simp only [Bool.false_eq_true,if_false] at hst
         rw [hst] at hN2'
         generalize (cand L j).map rowL=C1 at *
         generalize (rrun L w0 j).map rowL=W at *
         simp [hjl,hg,hg2,hLR,rowL,hk]
         refine SC_pure h68' ?_
         simp
         refine SC_pure h80' ?_
         simp
         refine SC_pure h78' ?_
         simp
         refine SC_pure h81' ?_
         simp [hwj]
         exact hN2' _ _ (by omega) (by omega) (by simp [hBr,hLr,hzrj])
     · have hP:isP (at' L j)=false:=by simp [isP,hk]
       rw [hP,Bool.false_and] at hst
       simp only [Bool.false_eq_true,if_false] at hst
       rw [hst] at hN2'
       simp [hjl,hg,hg2,hLR,rowL,hk,hwj]
       exact hN2' _ _ (by omega) (by omega) (by simp [hBr,hLr,hzrj])
   · have hje:j=ls.length:=by omega
     have hzrj:=hzr j
     rw [← hje] at hN'
     simp [hjl,hLR,hw]
     exact hN' [] _ _ (by omega) (by omega) (by simp [hBr,hzrj])
 · have hie:k=2:=by omega
   subst hie
   have hrz:=hrn 2
   rw [hb2] at hrz ⊢
   generalize (normN ls).map rowL=Z at *
   simp
   exact endK hKv [] (by simp [hrz])
end Go.Known
end
section
namespace Go.AE
open Go.RowKit
variable {P:Program}
theorem PCall.arg {g:FuncId} {args args':List AVal} {v:AVal} (h:PCall P g args v) (ha:WkL args' args):PCall P g args' v:=by
 obtain⟨h1,h2⟩:=WkL_get ha
 intro m av
 refine⟨(h m av).1,fun W Φ ρ vs w hr hargs hav=>(h m av).2 W Φ ρ vs w hr ⟨by rw [hargs.1,h1],fun i y u hy hu=>?_⟩ hav⟩
 obtain⟨x,hx,hw⟩:=h2 i y hy
 exact hw _ _ _ (hargs.2 i x u hx hu)
end Go.AE
namespace Go.Known
open Go Go.AE Go.Proofs
open Go.Plain
theorem fz_cVi {get:Nat→Option ABlk} (f:Int) (L:List Lt):freezeV get 4 (cV f L)=some (cV f L):=by
 unfold cV
 rw [freezeV]
 simp only [mapO]
 rw [freeze_imm (scal_rows _)]
 rfl
theorem c115e (f:Int):PCall Tryz.prog 88 [cV f [],.imm []] (cV f []):=by
 refine PCall_F hm 4 Tryz.func88 cf115 rfl rfl (by simp [closedL,AVal.closed,closedLL]) (by simp [AVal.closed,closedL,closedLL]) fun K hK=>?_
 have h114:=c114v f [] (by simp)
 have hKv:=hK (cV f []) ⟨[],1⟩ (fz_cVi f [])
 clear hK
 unfold cV at *
 simp at h114 ⊢
 refine wZ_loop (α:=Unit) (fun _=>[(5,.int .i64 0),(4,.ptr 4 0 0),(2,.ptr 3 0 0)]) (fun _=>⟨[(3,.cells 2 [[.int .i64 f,.imm []]]),(4,.cells 2 [[.int .i64 0,.nilSl]])],5⟩) (fun _=>0) (fun _=>True) () [(3,1),(4,2)] (by simp) trivial ?_
 intro _ _ N hN
 simp
 refine SC_pure h114 ?_
 simp
 exact endK hKv [] (by simp)
theorem c51e (f:Int):PCall Tryz.prog 51 [cV f []] (cV f []):=by
 refine PCall_F hm 4 Tryz.func51 cj51 rfl rfl (by simp [closedL,AVal.closed,closedLL]) (by simp [AVal.closed,closedL,closedLL]) fun K hK=>?_
 have h114:=c114v f [] (by simp)
 have hKv:=hK (cV f []) ⟨[],1⟩ (fz_cVi f [])
 clear hK
 unfold cV at *
 simp at h114 ⊢
 refine SC_pure h114 ?_
 simp
 refine wZ_loop (α:=Unit) (fun _=>[(4,.int .i64 0),(3,.ptr 3 0 0),(2,.ptr 2 0 0)]) (fun _=>⟨[(3,.cells 2 [[.int .i64 f,.imm []]]),(2,.cells 2 [[.int .i64 0,.nilSl]])],4⟩) (fun _=>0) (fun _=>True) () [(3,5)] (by simp) trivial ?_
 intro _ _ N hN
 simp
 exact endK hKv [] (by simp)
theorem c52e (f:Int):PCall Tryz.prog 52 [cV f []] (cV f []):=by
 refine PCall_F hm 4 Tryz.func52 cj52 rfl rfl (by simp [closedL,AVal.closed,closedLL]) (by simp [AVal.closed,closedL,closedLL]) fun K hK=>?_
 have h114:=c114v f [] (by simp)
 have hKv:=hK (cV f []) ⟨[],1⟩ (fz_cVi f [])
 clear hK
 unfold cV at *
 simp at h114 ⊢
 refine SC_pure h114 ?_
 simp
 refine wZ_loop (α:=Unit) (fun _=>[(4,.int .i64 0),(3,.ptr 3 0 0),(2,.ptr 2 0 0)]) (fun _=>⟨[(3,.cells 2 [[.int .i64 f,.imm []]]),(2,.cells 2 [[.int .i64 0,.nilSl]])],4⟩) (fun _=>0) (fun _=>True) () [(3,5)] (by simp) trivial ?_
 intro _ _ N hN
 simp
 exact endK hKv [] (by simp)
theorem c43e (f:Int):PCall Tryz.prog 43 [cV f []] (cV f []):=by
 refine PCall_F hm 4 Tryz.func43 cj43 rfl rfl (by simp [closedL,AVal.closed,closedLL]) (by simp [AVal.closed,closedL,closedLL]) fun K hK=>?_
 have h114:=c114v f [] (by simp)
 have h115:=(c115e f).arg (args':=[cV f [],.nilSl]) ⟨Wk.refl _,Wk_nil,trivial⟩
 have hKv:=hK (cV f []) ⟨[],1⟩ (fz_cVi f [])
 clear hK
 unfold cV at *
 simp at h114 h115 ⊢
 refine SC_pure h114 ?_
 simp
 refine wZ_loop (α:=Unit) (fun _=>[(5,.int .i64 0),(4,.nilSl),(3,.ptr 3 0 0),(2,.ptr 2 0 0)]) (fun _=>⟨[(3,.cells 2 [[.int .i64 f,.imm []]]),(2,.cells 2 [[.int .i64 0,.nilSl]])],4⟩) (fun _=>0) (fun _=>True) () [(3,5)] (by simp) trivial ?_
 intro _ _ N hN
 simp
 refine SC_pure h115 ?_
 simp
 exact endK hKv [] (by simp)
theorem c78e (f:Int):PCall Tryz.prog 119 [cV f []] (cV f []):=by
 refine PCall_F hm 4 Tryz.func119 cf78 rfl rfl (by simp [closedL,AVal.closed,closedLL]) (by simp [AVal.closed,closedL,closedLL]) fun K hK=>?_
 have h114:=c114v f [] (by simp)
 have hKv:=hK (cV f []) ⟨[],1⟩ (fz_cVi f [])
 clear hK
 unfold cV at *
 simp at h114 ⊢
 refine SC_pure h114 ?_
 simp
 refine wZ_loop (α:=Unit) (fun _=>[(5,.int .i64 0),(3,.ptr 3 0 0),(2,.ptr 2 0 0)]) (fun _=>⟨[(3,.cells 2 [[.int .i64 f,.imm []]]),(2,.cells 2 [[.int .i64 0,.nilSl]])],4⟩) (fun _=>0) (fun _=>True) () [(3,5)] (by simp) trivial ?_
 intro _ _ N hN
 simp
 exact endK hKv [] (by simp)
theorem c79e (f:Int):PCall Tryz.prog 120 [cV f []] (cV f []):=by
 refine PCall_F hm 4 Tryz.func120 cf79 rfl rfl (by simp [closedL,AVal.closed,closedLL]) (by simp [AVal.closed,closedL,closedLL]) fun K hK=>?_
 have h115:=(c115e f).arg (args':=[.agg [.int .i64 f,.nilSl],.nilSl]) ⟨Wk_agg ⟨Wk.refl _,Wk_nil,trivial⟩,Wk_nil,trivial⟩
 have hKv:=hK (cV f []) ⟨[],1⟩ (fz_cVi f [])
 clear hK
 have w1:IntKind.i64.wrap (-1) = -1:=by decide
 unfold cV at *
 simp [w1] at h115 ⊢
 refine wZ_loop (α:=Unit) (fun _=>[(5,.int .i64 (-1)),(4,.nilSl),(3,.ptr 3 0 0),(2,.ptr 2 0 0)]) (fun _=>⟨[(3,.cells 2 [[.int .i64 f,.nilSl]]),(2,.cells 2 [[.int .i64 0,.nilSl]])],4⟩) (fun _=>0) (fun _=>True) () [(3,6)] (by simp) trivial ?_
 intro _ _ N hN
 simp
 refine SC_pure h115 ?_
 simp
 exact endK hKv [] (by simp)
theorem c48e (f:Int):PCall Tryz.prog 73 [cV f []] (cV f []):=by
 refine PCall_F hm 4 Tryz.func73 cf48 rfl rfl (by simp [closedL,AVal.closed,closedLL]) (by simp [AVal.closed,closedL,closedLL]) fun K hK=>?_
 have h78:=c78e f
 have h79:=c79e f
 have hKv:=hK (cV f []) ⟨[],1⟩ (fz_cVi f [])
 clear hK
 obtain⟨BK,hBK⟩:∃ BK:List (List AVal),BK=[[.int .i64 f,.imm []],[.int .i64 f,.imm []]]:=⟨_,rfl⟩
 have hBl:BK.length=2:=by rw [hBK]; rfl
 have hBg:∀ i,i<2→BK[i]? = some [.int .i64 f,.imm []]:=fun i hi=>by
  rw [hBK]
  rcases (show i=0∨i=1 by omega) with rfl | rfl<;>rfl
 have hBr:∀ q,renLL q BK=BK:=fun q=>by
  rw [hBK]
  rfl
 unfold cV at *
 simp at h78 h79 ⊢
 refine SC_pure h78 ?_
 simp
 refine DC_pure h79 ?_
 simp [FT.indep]
 refine wZ_loop (α:=Nat) (fun k=>[(5,.int .i64 k),(4,.sl 4 0 2),(3,.ptr 3 0 0),(2,.ptr 2 0 0)])
  (fun k=>⟨[(4,.cells 2 BK),(3,.cells 2 [[.int .i64 f,.imm []]]),(2,.cells 2 [[.int .i64 0,.nilSl]])],5⟩)
  (fun k=>2 - k) (fun k=>k≤2) 0 [(3,5),(4,10)] (by rw [hBK]; simp) (by simp) ?_
 intro k hk2 N hN
 try simp only at hk2 hN ⊢
 by_cases hlt:k<2
 · have hb:=hBg k hlt
   obtain⟨hbl,hb2'⟩:=getE hb
   have hlt':(k:Int)<2:=by omega
   have hw:IntKind.i64.wrap ((k:Int)+1)=(k:Int)+1:=wrap64 (by omega) (by omega)
   have hN':=hN (k+1)
   clear hBK
   simp [hlt,hlt',hb,hb2',hBl]
   refine wZ_loop (α:=Unit) (fun _=>[(7,.int .i64 0),(6,.ptr 5 0 0),(5,.int .i64 k),(4,.sl 4 0 2),(3,.ptr 3 0 0),(2,.ptr 2 0 0)])
    (fun _=>⟨[(5,.cells 2 [[.int .i64 f,.imm []]]),(4,.cells 2 BK),(3,.cells 2 [[.int .i64 f,.imm []]]),(2,.cells 2 [[.int .i64 0,.nilSl]])],6⟩) (fun _=>0) (fun _=>True) () [(5,11)] (by simp [hBr]) trivial ?_
   intro _ _ N2 hN2
   simp [hw]
   exact hN' [] _ _ (by omega) (by omega) (by simp [hBr])
 · have hie:k=2:=by omega
   subst hie
   simp
   exact endK hKv [] (by simp)
theorem c48v (f:Int) (ls:List Lt) (he:errC f ls=0):PCall Tryz.prog 73 [cV f ls] (cV f (normN ls)):=by
 by_cases h0:ls=[]
 · subst h0
   exact c48e f
 · exact c48g f ls (valR_of he h0) h0
theorem c22v (f g:Int) (a b:List Lt) (ha:errC f a=0) (hb:errC g b=0) (hal:a.length≤1000) (hbl:b.length≤1000) :
 PCall Tryz.prog 35 [cV f a,cV g b] (.bool (decide (f=g)&&decide (normN a=normN b))):=by
 refine PCall_1 hm Tryz.func35 cf22 rfl rfl (by simp [closedL,AVal.closed,closed_rows]) trivial fun K hK=>?_
 have h1:=c48v f a ha
 have h2:=c48v g b hb
 have h12:=c12v f g (normN a) (normN b) (Nat.le_trans normN_len hal) (Nat.le_trans normN_len hbl)
 have hra:∀ q,renLL q (a.map rowL)=a.map rowL:=fun q=>renLL_closed q _ (closed_rows a)
 have hrb:∀ q,renLL q (b.map rowL)=b.map rowL:=fun q=>renLL_closed q _ (closed_rows b)
 unfold cV at *
 generalize a.map rowL=ra at *
 generalize b.map rowL=rb at *
 generalize (normN a).map rowL=na at *
 generalize (normN b).map rowL=nb at *
 simp only [← Bool.decide_and] at h12 hK
 generalize decide (f=g∧normN a=normN b)=t at *
 simp
 refine DC_pure h1 ?_
 simp [FT.indep]
 refine DC_pure h2 ?_
 simp
 refine DC_pure h12 ?_
 simp
 exact endK hK [] (by simp)
end Go.Known
end
section
namespace Go.Known
open Go Go.AE Go.Proofs
open Go.Plain
set_option maxHeartbeats 4000000 in
theorem c19g (f:Int) (ls:List Lt) (a b c:Bool)
 (h114:PCall Tryz.prog 50 [cV f ls] (cV f ls))
 (h51:PCall Tryz.prog 51 [cV f ls] (cV f (swN ls)))
 (h52:PCall Tryz.prog 52 [cV f (img1 a ls)] (cV f (miN f (img1 a ls))))
 (h43:PCall Tryz.prog 43 [cV f (img2 f b (img1 a ls))] (cV f (tuN (img2 f b (img1 a ls))))) :
 PCall Tryz.prog 19 [cV f ls,.agg [.bool a,.bool b,.bool c]] (cV f (img3 c (img2 f b (img1 a ls)))):=by
 refine PCall_F hm 4 Tryz.func19 cj19 rfl rfl (by simp [closedL,AVal.closed,closed_rows]) (by simp [AVal.closed,closedL,closed_rows]) fun K hK=>?_
 have hKv:=hK (cV f (img3 c (img2 f b (img1 a ls)))) ⟨[],1⟩ (fz_cVi f _)
 clear hK
 have h1:(if a then swN ls else ls)=img1 a ls:=rfl
 have h2:(if b then miN f (img1 a ls) else img1 a ls)=img2 f b (img1 a ls):=rfl
 have h3:(if c then tuN (img2 f b (img1 a ls)) else img2 f b (img1 a ls))=img3 c (img2 f b (img1 a ls)):=rfl
 have hr:∀ q,renLL q ((img3 c (img2 f b (img1 a ls))).map rowL)=(img3 c (img2 f b (img1 a ls))).map rowL:=fun q=>renLL_closed q _ (closed_rows _)
 unfold cV at *
 simp
 refine SC_pure h114 ?_
 cases a with
 | true=>
  simp only [if_true] at h1
  rw [h1] at h51
  simp
  refine SC_pure h51 ?_
  cases b with
  | true=>
   simp only [if_true] at h2
   rw [h2] at h52
   simp
   refine SC_pure h52 ?_
   cases c with
   | true=>
    simp only [if_true] at h3
    rw [h3] at h43
    simp
    refine SC_pure h43 ?_
    simp
    exact endK hKv [] (by simp [hr])
   | false=>
    simp only [Bool.false_eq_true,if_false] at h3
    rw [h3]
    simp
    exact endK hKv [] (by simp [hr])
  | false=>
   simp only [Bool.false_eq_true,if_false] at h2
   rw [h2]
   cases c with
   | true=>
    simp only [if_true] at h3
    rw [h3] at h43
    simp
    refine SC_pure h43 ?_
    simp
    exact endK hKv [] (by simp [hr])
   | false=>
    simp only [Bool.false_eq_true,if_false] at h3
    rw [h3]
    simp
    exact endK hKv [] (by simp [hr])
 | false=>
  simp only [Bool.false_eq_true,if_false] at h1
  rw [h1]
  cases b with
  | true=>
   simp only [if_true] at h2
   rw [h2] at h52
   simp
   refine SC_pure h52 ?_
   cases c with
   | true=>
    simp only [if_true] at h3
    rw [h3] at h43
    simp
    refine SC_pure h43 ?_
    simp
    exact endK hKv [] (by simp [hr])
   | false=>
    simp only [Bool.false_eq_true,if_false] at h3
    rw [h3]
    simp
    exact endK hKv [] (by simp [hr])
  | false=>
   simp only [Bool.false_eq_true,if_false] at h2
   rw [h2]
   cases c with
   | true=>
    simp only [if_true] at h3
    rw [h3] at h43
    simp
    refine SC_pure h43 ?_
    simp
    exact endK hKv [] (by simp [hr])
   | false=>
    simp only [Bool.false_eq_true,if_false] at h3
    rw [h3]
    simp
    exact endK hKv [] (by simp [hr])
theorem c19w (f:Int) (ls:List Lt) (k:Nat) (h:ls.length≤1000) (he:errC f ls=0):PCall Tryz.prog 19 [cV f ls,.agg (symR k)] (cV f (imgI f ls k)):=by
 unfold imgI symR
 by_cases h0:ls=[]
 · subst h0
   refine c19g f [] _ _ _ (c114v f [] (by simp)) (c51e f) (by rw [img1_nil]; exact c52e f) (by rw [img1_nil,img2_nil]; exact c43e f)
 · have hv:=valR_of he h0
   obtain⟨a1,a2,_⟩:=img1_ok (decide (4≤k)) hv h0
   obtain⟨b1,b2,_⟩:=img2_ok (decide (2≤k % 4)) a1 a2
   exact c19g f ls _ _ _ (c114v f ls h) (c51v f ls hv h0) (c52v f _ a1 a2) (c43v f _ b1 b2)
theorem imgI_ok (f:Int) (ls:List Lt) (k:Nat) (h:ls.length≤1000) (he:errC f ls=0):errC f (imgI f ls k)=0∧(imgI f ls k).length≤1000:=by
 obtain⟨_,h2,h3,_⟩:=c9w f ls (decide (4≤k)) (decide (2≤k % 4)) (decide (k % 2=1)) h he
 exact⟨h2,h3⟩
set_option maxRecDepth 100000 in
set_option maxHeartbeats 8000000 in
theorem c17s (f:Int) (ls:List Lt) (h:ls.length≤1000) (he:errC f ls=0):PCall Tryz.prog 17 [cV f ls] (imV (symL f ls 8)):=by
 refine PCall_F hm 4 Tryz.func17 cj17 rfl rfl (by simp [closedL,AVal.closed,closed_rows]) (by simp [closed_imV,symL,closedLL_symM]) fun K hK=>?_
 have hrr:∀ q,renLL q (ls.map rowL)=ls.map rowL:=fun q=>renLL_closed q _ (closed_rows ls)
 have himg:=fun k=>c19w f ls k h he
 have hsame:∀ i,PCall Tryz.prog 35 [cV f (imgI f ls i),cV f ls] (.bool (hasI f ls i)):=fun i=>by
  obtain⟨h1,h2⟩:=imgI_ok f ls i h he
  have:=c22v f f (imgI f ls i) ls h1 he h2 h
  rw [decide_eq_true rfl,Bool.true_and] at this
  have e:decide (normN (imgI f ls i)=normN ls)=hasI f ls i:=decide_eq_decide.2 ⟨fun h=>h.symm,fun h=>h.symm⟩
  rw [e] at this
  exact this
 have hKv:=hK (slV 1 (symL f ls 8)) ⟨blV 1 3 (symL f ls 8) [],2⟩ (by
  by_cases h0:symL f ls 8=[]
  · rw [h0]; rfl
  · rw [slV_ne h0,imV_ne h0]
    exact freeze_rows (n:=3) (k:=3) (by simp [blV_ne,h0]) (scal_symM _))
 clear hK
 have hr:∀ i q,renLL q (symL f ls i)=symL f ls i:=fun i q=>closed_symM _ q
 have hl:∀ i,i≤8→(symL f ls i).length≤1048575:=fun i hi=>by
  have:=symN_le f ls i
  unfold symL
  rw [List.length_map]
  omega
 have hs:=fun i=>symL_succ f ls i
 have hs0:symL f ls 0=[]:=rfl
 have hsy:∀ k,k<8→(symRs 8)[k]? = some (symR k):=fun k hk8=>by
  unfold symRs
  rw [List.getElem?_map,List.getElem?_range hk8]
  rfl
 have h23:=c23
 have hsr:=closed_symRs 8
 have hsl8:(symRs 8).length=8:=by simp
 unfold cV at *
 generalize symL f ls=S at *
 generalize symRs 8=A8 at *
 generalize ls.map rowL=rows at *
 simp
 refine SC_pure h23 ?_
 simp
 refine wZ_loop (α:=Nat) (fun i=>[(5,.int .i64 i),(4,.imm A8),(3,slV 2 (S i)),(1,.ptr 1 0 0)]) (fun i=>⟨(1,.cells 2 [[.int .i64 f,.imm rows]]) :: blV 2 3 (S i) [],3⟩) (fun i=>8 - i) (fun i=>i≤8) 0 [] (by simp [hrr,hs0,hsr]) (by simp) ?_
 intro i hi N hN
 try simp only at hi hN ⊢
 by_cases hlt:i<8
 · have hlt':(i:Int)<8:=by omega
   have hw:IntKind.i64.wrap ((i:Int)+1)=(i:Int)+1:=wrap64 (by omega) (by omega)
   have hi1:=himg i
   have hsm:=hsame i
   have hsi:=hs i
   have hri:=hr i
   have hli:=hl i (by omega)
   have hN':=hN (i+1)
   have hri1:=hr (i+1)
   have hg:=hsy i hlt
   obtain⟨hgl,hg2⟩:=getE hg
   generalize (imgI f ls i).map rowL=D at *
   unfold symR at *
   rw [hsi] at hN' hri1
   generalize S i=Si at *
   simp [hlt',hg,hg2,hsl8]
   refine DC_pure hi1 ?_
   simp [FT.indep]
   refine DC_pure hsm ?_
   cases hh:hasI f ls i with
   | true=>
    rw [hh] at hN' hri1
    simp only [if_true] at hN' hri1
    simp [hli,hw,hg,hg2,hsl8]
    exact hN' [(2,19)] _ _ (by omega) (by omega) (by simp +contextual [hrr,hri,hsr])
   | false=>
    rw [hh] at hN' hri1
    simp only [Bool.false_eq_true,if_false] at hN' hri1
    simp [hw]
    exact hN' [] _ _ (by omega) (by omega) (by simp +contextual [hrr,hri,hsr])
 · have hie:i=8:=by omega
   subst hie
   have hr8:=hr 8
   generalize S 8=S8 at *
   simp
   exact endK hKv [(1,2)] (by simp +contextual [hr8])
theorem known9i:PCall Tryz.prog 10 [] (.bool true):=mo33
theorem ne_sym (j:Nat):binA .neq (.flat [.bool,.bool,.bool]) (.agg (symR j)) (.agg (symR j))=some (.bool false):=by
 simp [binA,eqA,sameCells,keyEq,symR]
set_option maxRecDepth 100000 in
set_option maxHeartbeats 16000000 in
theorem cImag (f:Int) (ls:List Lt) (which:Int):PCall Tryz.prog 4 [cV f ls,.int .i64 which] (.bool true):=by
 refine PCall_1 hm Tryz.func4 cj4 rfl rfl (by simp [closedL,AVal.closed,closed_rows]) trivial fun K hK=>?_
 have hrr:∀ q,renLL q (ls.map rowL)=ls.map rowL:=fun q=>renLL_closed q _ (closed_rows ls)
 have h18:=c18 f ls
 by_cases hs:ls.length≤40∧errC f ls=0
 rotate_left
 · have hb:(decide (ls.length≤40)&&decide (errC f ls=0))=false:=by simpa using hs
   rw [hb] at h18
   clear hs hb
   unfold cV at *
   generalize ls.map rowL=rows at *
   simp
   refine SC_pure h18 ?_
   simp
   refine SC_pure known9i ?_
   simp
   exact endK hK [] (by simp)
 obtain⟨hl,he⟩:=hs
 have hb:(decide (ls.length≤40)&&decide (errC f ls=0))=true:=by simp [hl,he]
 rw [hb] at h18
 clear hb
 by_cases hw0:which<0
 · unfold cV at *
   generalize ls.map rowL=rows at *
   simp
   refine SC_pure h18 ?_
   simp [hw0]
   refine SC_pure known9i ?_
   simp
   exact endK hK [] (by simp)
 by_cases hw7:7<which
 · unfold cV at *
   generalize ls.map rowL=rows at *
   simp
   refine SC_pure h18 ?_
   simp [hw0,hw7]
   refine SC_pure known9i ?_
   simp
   exact endK hK [] (by simp)
 obtain⟨k,hk⟩:∃ k:Nat,which=(k:Int):=⟨which.toNat,by omega⟩
 subst hk
 have hk8:k<8:=by omega
 have hsy:(symRs 8)[k]? = some (symR k):=by
  unfold symRs
  rw [List.getElem?_map,List.getElem?_range hk8]
  rfl
 have hls:ls.length≤1000:=by omega
 obtain⟨hi2,hi3⟩:=imgI_ok f ls k hls he
 have hpi:PCall Tryz.prog 15 [cV f ls,.agg (symR k)] (.tuple [cV f (imgI f ls k),.int .i64 0]):=(c9w f ls (decide (4≤k)) (decide (2≤k % 4)) (decide (k % 2=1)) hls he).1
 have hri:=c19w f ls k hls he
 have hps:=c10v f ls hls he
 have hrs:=c17s f ls hls he
 have heq:=c12v f f (imgI f ls k) (imgI f ls k) hi3 hi3
 rw [decide_eq_true rfl,decide_eq_true rfl] at heq
 have hll:(symL f ls 8).length=(symN f ls 8).length:=by unfold symL; rw [List.length_map]
 have hlg:∀ i,i<(symN f ls 8).length → ∃ j,(symL f ls 8)[i]? = some (symR j):=fun i hi=>by
  refine⟨(symN f ls 8)[i],?_⟩
  unfold symL
  rw [List.getElem?_map,List.getElem?_eq_getElem hi]
  rfl
 have hnl:=symN_le f ls 8
 have hpc:(imV (symL f ls 8)).closed=true:=closed_imV (closedLL_symM _)
 have hpr:∀ q,renLL q (symL f ls 8)=symL f ls 8:=fun q=>closed_symM _ q
 have hdr:∀ q,renLL q ((imgI f ls k).map rowL)=(imgI f ls k).map rowL:=fun q=>renLL_closed q _ (closed_rows _)
 have h23:=c23
 have hsr:=closed_symRs 8
 have hsk:∀ j,(symR j).length=3:=fun j=>rfl
 have hskr:∀ q,renL q (symR k)=symR k:=fun q=>rfl
 have hskt:∀ j,(symR j).take 3=symR j:=fun j=>rfl
 have hnes:=ne_sym
 unfold cV at *
 generalize (imgI f ls k).map rowL=D at *
 generalize ls.map rowL=rows at *
 generalize symRs 8=S at *
 generalize (symN f ls 8).length=n at *
 generalize symL f ls 8=P at *
 have hpn:0<n→imV P=.imm P:=fun h=>imV_ne (by intro e; rw [e] at hll; simp at hll; omega)
 have hpr':∀ q,(imV P).ren q=imV P:=fun q=>AVal.ren_closed q _ hpc
 have hkw0:¬((k:Int)<0):=by omega
 have hkw7:¬((7:Int)<(k:Int)):=by omega
 obtain⟨hsl1,hsl2⟩:=getE hsy
 have hsc:symR k=[.bool (decide (4≤k)),.bool (decide (2≤k % 4)),.bool (decide (k % 2=1))]:=rfl
 rw [hsc] at hsy hsl2 hpi hri
 simp
 refine SC_pure h18 ?_
 simp [hkw0,hkw7]
 refine SC_pure h23 ?_
 simp [hsy,hsl1,hsl2]
 refine SC_pure hpi ?_
 simp
 refine SC_pure hps ?_
 simp
 refine SC_pure hrs ?_
 simp
 refine DC_pure hri ?_
 simp [FT.indep]
 refine DC_pure heq ?_
 simp [hll]
 refine wZ_loop (α:=Nat) (fun i=>[(11,.int .i64 i),(10,imV P),(8,imV P)]) (fun _=>⟨[],1⟩) (fun i=>n - i) (fun i=>i≤n) 0 [] (by simp [hpr']) (by simp) ?_
 intro i hi N hN
 try simp only at hi hN ⊢
 by_cases hlt:i<n
 · obtain⟨j,hj⟩:=hlg i hlt
   obtain⟨hj1,hj2⟩:=getE hj
   have hw:IntKind.i64.wrap ((i:Int)+1)=(i:Int)+1:=wrap64 (by omega) (by omega)
   have hN':=hN (i+1) []
   have hne:=hnes j
   have h3:=hsk j
   have h3t:=hskt j
   rw [hpn (by omega)] at hN' hpr' ⊢
   generalize symR j=rj at *
   simp [hlt,hll,hj,hj2,hw,h3,h3t,hne]
   exact hN' _ _ (by omega) (by omega) (by simp [hpr])
 · simp [hlt,hll]
   refine SC_pure known9i ?_
   simp
   exact endK hK [] (by simp)
end Go.Known
end
