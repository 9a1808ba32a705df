/- Part 46 of the proof: Sj. -/
import Derived.Test.YtpaedbidpkepnaaGreatDoorC45
set_option linter.all false
namespace Go.AE
open Go.RowKit
variable {P:Program}
def Wk (v v':AVal):Prop:=∀ (Φ:Pers) (ρ:Rho) (u:Value),R Φ ρ v u→R Φ ρ v' u
def WkL:List AVal→List AVal→Prop
 | [],[]=>True
 | x :: r,y :: s=>Wk x y∧WkL r s
 | _,_=>False
theorem Wk.refl (v:AVal):Wk v v:=fun _ _ _ h=>h
theorem Wk_nil:Wk .nilSl (.imm []):=fun Φ ρ u h=>E0_nil Φ ρ u h Φ ρ
theorem WkL_get:∀ {xs ys:List AVal},WkL xs ys→xs.length=ys.length ∧ ∀(i:Nat) (y:AVal),ys[i]? = some y → ∃ x,xs[i]? = some x∧Wk x y
 | [],[],_=>⟨rfl,fun i y h=>by simp at h⟩
 | [],_ :: _,h=>h.elim
 | _ :: _,[],h=>h.elim
 | x :: r,y :: s,h=>by
  obtain⟨h1,h2⟩:=WkL_get h.2
  refine⟨by simp [h1],fun i z hz=>?_⟩
  cases i with
  | zero=>cases hz; exact⟨x,rfl,h.1⟩
  | succ i=>exact h2 i z (by simpa using hz)
theorem Wk_agg {xs ys:List AVal} (h:WkL xs ys):Wk (.agg xs) (.agg ys):=fun Φ ρ u hu=>by
 obtain⟨h1,h2⟩:=WkL_get h
 cases hu with
 | agg cs vs hs hr=>
  refine .agg _ _ (by rw [hs,h1]) fun i y v hy hv=>?_
  obtain⟨x,hx,hw⟩:=h2 i y hy
  exact hw _ _ _ (hr i x v hx hv)
theorem Wk_tuple {xs ys:List AVal} (h:WkL xs ys):Wk (.tuple xs) (.tuple ys):=fun Φ ρ u hu=>by
 obtain⟨h1,h2⟩:=WkL_get h
 cases hu with
 | tuple cs vs hs hr=>
  refine .tuple _ _ (by rw [hs,h1]) fun i y v hy hv=>?_
  obtain⟨x,hx,hw⟩:=h2 i y hy
  exact hw _ _ _ (hr i x v hx hv)
theorem PCall.wk {g:FuncId} {args:List AVal} {v v':AVal} (h:PCall P g args v) (hv:Wk v v'):PCall P g args v':=by
 intro m av
 refine⟨(h m av).1,fun W Φ ρ vs w hr ha hav=>((h m av).2 W Φ ρ vs w hr ha hav).mono fun e w' he=>?_⟩
 obtain⟨u,r,m',Φ',ρ',e1,hE,hk,hr',hR,hn,rfl,rfl⟩:=he
 exact⟨u,_,_,Φ',ρ',e1,hE,hk,hr',hv _ _ _ hR,hn,rfl,rfl⟩
end Go.AE
namespace Go.Known
open Go Go.AE Go.Proofs
open Go.Plain
theorem normO_some {ls:List Lt} (h0:ls≠[]) (hf:isP (at' ls 0)=true):normO ls=some (normN ls):=by
 have hlp:0<ls.length:=List.length_pos_iff.2 h0
 have h1:nrun ls none ls.length≠none:=by
  obtain⟨k,hk⟩:∃ k,ls.length=k+1:=⟨ls.length - 1,by omega⟩
  rw [hk]
  have:∀ k,nrun ls none (k+1)≠none:=by
   intro k
   induction k with
   | zero=>
    have hd:down ls 0=true:=rfl
    simp [nrun,nstep,hf,hd]
   | succ k ih=>exact nstep_some ih
  exact this k
 have h2:=nrun_some (l:=backN ls) h1 ls.length
 unfold normN normO
 cases h:nrun (backN ls) (nrun ls none ls.length) ls.length with
 | none=>exact absurd h h2
 | some w=>rfl
set_option maxHeartbeats 2000000 in
theorem c64g (f:Int) (ls:List Lt) (hv:ValR f ls) (h0:ls≠[]):PCall Tryz.prog 47 [cV f ls] (.tuple [cV f (normN ls),.int .i64 0]):=by
 refine PCall_F hm 4 Tryz.func47 cf64 rfl rfl (by simp [closedL,AVal.closed,closed_rows]) (by simp [AVal.closed,closedL,closed_rows]) fun K hK=>?_
 have hl:ls.length≤1000:=by have:=hv.len; omega
 have hfst:isP (at' ls 0)=true:=by simp [isP,hv.fst]
 have h109:=fun F=>c109 F ls (crE ls ls.length) hl (hv.bk h0) hfst
 rw [normO_some h0 hfst] at h109
 simp only [lsV] at h109
 have h59:=c59 f ls hl
 have he:=hv.to
 have hrr:∀ q,renLL q (ls.map rowL)=ls.map rowL:=fun q=>renLL_closed q _ (closed_rows ls)
 have hLr:∀ q,renLL q ((normN ls).map rowL)=(normN ls).map rowL:=fun q=>renLL_closed q _ (closed_rows _)
 have hKv:=hK (.tuple [cV f (normN ls),.int .i64 0]) ⟨[],1⟩ (fz_code f _)
 clear hK
 unfold cV dF dM dV2 at *
 generalize ls.map rowL=rows at *
 generalize (normN ls).map rowL=LR at *
 generalize hBe:bls (fillN ls.length ls.length (downV ls) false)=B at *
 generalize hCe:nums (fillN ls.length ls.length (placeV ls) 0)=C at *
 generalize hAe:nums (axis ls)=A at *
 have hrA:∀ q,renLL q A=A:=fun q=>by rw [← hAe]; exact ren_nums q _
 have hrB:∀ q,renLL q B=B:=fun q=>by rw [← hBe]; exact ren_bls q _
 have hrC:∀ q,renLL q C=C:=fun q=>by rw [← hCe]; exact ren_nums q _
 clear hBe hCe hAe
 generalize (axis ls).length=m at *
 generalize crE ls ls.length=E at *
 simp
 refine SC_ctr h59 [] (by simp [hrr]) (by simp) (by simp) ?_
 rintro r sm (⟨h1,_⟩ | ⟨_,h1,_⟩ | ⟨_,_,hf0,hf1,_,rfl,rfl⟩)
 · exact absurd he h1
 · exact absurd h1 h0
 obtain⟨F,hF⟩:∃ F:Nat,f=(F:Int):=⟨f.toNat,by omega⟩
 subst hF
 have h109':=h109 F
 simp [hrr,hrA,hrB,hrC,ren_mkE,ren_nums]
 refine SC_ctr h109' [(1,11),(2,12),(3,13),(4,14),(5,15),(6,16)] (by simp) (by simp [hrr,hrA,hrB,hrC,ren_mkE,ren_nums]) (by simp) ?_
 rintro r sm ⟨rfl,rfl⟩
 simp [hrr,hrA,hrB,hrC,ren_mkE,ren_nums,hLr]
 exact endK hKv [] (by simp [hLr])
theorem c169e:PCall Tryz.prog 146 [.imm []] (.tuple []):=by
 refine PCall_F hm 4 Tryz.func146 cf169 rfl rfl (by simp [closedL,AVal.closed,closedLL]) rfl fun K hK=>?_
 have hK':=hK (.tuple []) ⟨[],1⟩ rfl
 clear hK
 have w1:IntKind.i64.wrap (-1) = -1:=by decide
 simp [w00,w1]
 refine wZ_loop (α:=Unit) (fun _=>[(3,.int .i64 (-1)),(2,.int .i64 0)]) (fun _=>⟨[],1⟩) (fun _=>0) (fun _=>True) () [] (by simp [w1]) trivial ?_
 intro _ _ N hN
 simp
 exact endK hK' [] (by simp)
theorem c139e (f:Int):Ctr Tryz.prog 120 [.ptr 1 0 0] (dM1 f []) fun v m=>v=.imm []∧m=⟨(dM1 f []).bl,2⟩:=by
 refine ctr_P hm Tryz.func120 cf139 rfl rfl fun K hK=>?_
 have hK':=hK _ _ ⟨rfl,rfl⟩
 clear hK
 have h31:=c31e
 have h169:=c169e
 simp
 refine SC_pure h31 ?_
 simp
 refine SC_pure h169 ?_
 simp
 refine wZ_loop (α:=Unit) (fun _=>[(16,.int .i64 0),(15,.int .i64 0),(3,.imm [])]) (fun _=>⟨[(1,dV0 f [])],2⟩) (fun _=>0) (fun _=>True) () [] (by simp) trivial ?_
 intro _ _ N hN
 simp
 exact endK hK' [] (by simp)
theorem c109e (f:Int):Ctr Tryz.prog 86 [.ptr 1 0 0] (dM1 f []) fun v m=>v=.agg [.int .i64 f,.nilSl]∧m=⟨(dM1 f []).bl,2⟩:=by
 refine ctr_P hm Tryz.func86 cf109 rfl rfl fun K hK=>?_
 have hK':=hK _ _ ⟨rfl,rfl⟩
 clear hK
 have h139:=c139e f
 simp
 refine DC_ctr h139 (by simp) [(1,1)] (by simp) (by simp [EqRB]) (by simp) (fun s=>by simp) (by simp) ?_
 simp [FT.indep]
 refine wZ_loop (α:=Nat) (fun i=>[(19,.int .i64 i),(18,.int .i64 2),(17,.sl 3 0 2),(3,.nilSl),(2,.ptr 2 0 0),(0,.ptr 1 0 0)]) (fun _=>⟨[(1,dV0 f []),(2,.cells 2 [[.int .i64 0,.nilSl]]),(3,.cells 1 [[.imm []],[.imm []]])],4⟩) (fun i=>2 - i) (fun i=>i≤2) 0 [(3,11)] (by simp) (by simp) ?_
 intro i hi N hN
 try simp only at hi hN ⊢
 by_cases hlt:i<2
 · have hb:([[.imm []],[.imm []]]:List (List AVal))[i]? = some [.imm []]:=by
    rcases (show i=0∨i=1 by omega) with rfl | rfl<;>rfl
   obtain⟨hbl,hb2⟩:=getE hb
   have hlt':(i:Int)<2:=by omega
   have hw:IntKind.i64.wrap ((i:Int)+1)=(i:Int)+1:=wrap64 (by omega) (by omega)
   have hN':=hN (i+1) []
   obtain⟨BK,hBK⟩:∃ BK:List (List AVal),BK=[[.imm []],[.imm []]]:=⟨_,rfl⟩
   have hBl:BK.length=2:=by rw [hBK]; rfl
   have hBr:∀ q,renLL q BK=BK:=fun q=>by rw [hBK]; rfl
   have hb':BK[i]? = some [.imm []]:=by rw [hBK]; exact hb
   obtain⟨hbl',hb2'⟩:=getE hb'
   rw [← hBK] at hN' ⊢
   clear hb hb2 hbl hN
   simp [hlt,hlt',hb',hb2',hBl]
   refine wZ_loop (α:=Unit) (fun _=>[(25,.int .i64 0),(24,.int .i64 0),(19,.int .i64 i),(18,.int .i64 2),(17,.sl 3 0 2),(3,.nilSl),(2,.ptr 2 0 0),(0,.ptr 1 0 0)]) (fun _=>⟨[(1,dV0 f []),(2,.cells 2 [[.int .i64 0,.nilSl]]),(3,.cells 1 BK)],4⟩) (fun _=>0) (fun _=>True) () [] (by simp [hBr]) trivial ?_
   intro _ _ N2 hN2
   simp [hw]
   exact hN' _ _ (by omega) (by omega) (by simp [hBr])
 · have hie:i=2:=by omega
   subst hie
   simp
   exact endK hK' [] (by simp)
theorem c64e (f:Int) (he:errC f []=0):PCall Tryz.prog 47 [cV f []] (.tuple [cV f [],.int .i64 0]):=by
 refine PCall.wk (v:=.tuple [.agg [.int .i64 f,.nilSl],.int .i64 0]) ?_ (Wk_tuple ⟨Wk_agg ⟨Wk.refl _,Wk_nil,trivial⟩,Wk.refl _,trivial⟩)
 refine PCall_F hm 4 Tryz.func47 cf64 rfl rfl (by simp [closedL,AVal.closed,closedLL]) (by simp [AVal.closed,closedL]) fun K hK=>?_
 have h109:=c109e f
 have h59:=c59 f [] (by simp)
 have hKv:=hK (.tuple [.agg [.int .i64 f,.nilSl],.int .i64 0]) ⟨[],1⟩ rfl
 clear hK
 unfold cV at *
 simp
 refine SC_ctr h59 [] (by simp) (by simp) (by simp) ?_
 rintro r sm (⟨h1,_⟩ | ⟨_,_,_,_,rfl,rfl⟩ | ⟨_,h1,_⟩)
 · exact absurd he h1
 · simp
   refine SC_ctr h109 [(1,11)] (by simp) (by simp) (by simp) ?_
   rintro r sm ⟨rfl,rfl⟩
   simp
   exact endK hKv [] (by simp)
 · exact absurd rfl h1
theorem c64v (f:Int) (ls:List Lt) (he:errC f ls=0):PCall Tryz.prog 47 [cV f ls] (.tuple [cV f (normN ls),.int .i64 0]):=by
 by_cases h0:ls=[]
 · subst h0
   exact c64e f he
 · exact c64g f ls (valR_of he h0) h0
theorem normN_len {ls:List Lt}:(normN ls).length≤ls.length:=by
 unfold normN
 cases h:normO ls with
 | none=>simp
 | some w=>
  have h1:∀ w,nrun ls none ls.length=some w→w.length=ls.length:=fun w hw=>nrun_len rfl (fun w h=>by cases h) _ w hw
  have:=nrun_len (l:=backN ls) (backN_length ls) h1 ls.length w h
  simp [this]
set_option maxHeartbeats 2000000 in
theorem c34v (f g:Int) (a b:List Lt) (ha:errC f a=0) (hb:errC g b=0) (hal:a.length≤1000) (hbl:b.length≤1000) :
 PCall Tryz.prog 21 [cV f a,cV g b] (.tuple [.bool (decide (f=g)&&decide (normN a=normN b)),.int .i64 0]):=by
 refine PCall_F hm 4 Tryz.func21 cf34 rfl rfl (by simp [closedL,AVal.closed,closed_rows]) (by simp [AVal.closed,closedL]) fun K hK=>?_
 have h1:=c64v f a ha
 have h2:=c64v g b hb
 have h65:=c65 (normN a) (normN b) (Nat.le_trans normN_len hal) (Nat.le_trans normN_len hbl)
 have hKv:=hK (.tuple [.bool (decide (f=g)&&decide (normN a=normN b)),.int .i64 0]) ⟨[],1⟩ rfl
 clear hK
 have hra:∀ q,renLL q (a.map rowL)=a.map rowL:=fun q=>renLL_closed q _ (closed_rows a)
 have hrb:∀ q,renLL q (b.map rowL)=b.map rowL:=fun q=>renLL_closed q _ (closed_rows b)
 unfold cV at *
 generalize a.map rowL=ra at *
 generalize b.map rowL=rb at *
 generalize (normN a).map rowL=na at *
 generalize (normN b).map rowL=nb at *
 generalize decide (normN a=normN b)=t at *
 simp
 refine SC_pure h1 ?_
 simp
 refine SC_pure h2 ?_
 by_cases hfg:f=g
 · rw [decide_eq_true hfg,Bool.true_and] at hKv
   simp [hfg]
   refine SC_pure h65 ?_
   simp
   exact endK hKv [] (by simp)
 · rw [decide_eq_false hfg,Bool.false_and] at hKv
   simp [hfg]
   exact endK hKv [] (by simp)
end Go.Known
