/- Part 49 of the proof: Wj, Wk, Wl. -/
import Derived.Test.YtipeejpafgnjdaaGreatDoorF33
import Derived.Test.YtipeejpafgnjdaaGreatDoorF45
import Derived.Test.YtipeejpafgnjdaaGreatDoorF46
import Derived.Test.YtipeejpafgnjdaaGreatDoorF48
set_option linter.all false
section
namespace Go.Known
open Go Go.AE Go.Proofs
open Go.Plain
attribute [local simp] wX_skip wX_region wX_dregion wX_seq wX_condM wX_ret rops_nil rops_one sx_mov sx_lenSl sx_add sx_sub sx_eql sx_gtr sx_un sx_slSl sx_copy sx_capSl sx_appendZ
def cpR (els:List (List AVal)) (off len:Nat) (xs:List (List AVal)):List (List AVal):=els.take off++xs.take (min xs.length len)++els.drop (off+min xs.length len)
theorem cpR_len {els:List (List AVal)} {off len:Nat} {xs:List (List AVal)} (h:off+min xs.length len≤els.length):(cpR els off len xs).length=els.length:=by
 unfold cpR
 simp
 omega
theorem cpR_mid {P Q S xs:List (List AVal)} {off len:Nat} (h1:P.length=off) (h2:Q.length=xs.length) (h3:xs.length≤len):cpR (P++Q++S) off len xs=P++xs++S:=by
 have a1:(P++Q++S).take P.length=P:=by rw [List.append_assoc,List.take_left]
 have a3:(P++Q++S).drop (P.length+xs.length)=S:=by rw [← h2,← List.length_append,List.drop_left]
 unfold cpR
 rw [Nat.min_eq_left h3,← h1,a1,a3,List.take_length]
theorem cpR_take {els xs:List (List AVal)} {off len:Nat}:cpR els off len (xs.take len)=cpR els off len xs:=by
 unfold cpR
 have:min (xs.take len).length len=min xs.length len:=by rw [List.length_take]; omega
 rw [this,List.take_take,Nat.min_eq_left (by omega)]
theorem sd_copy (id:Nat) (f:AOpd→AVal) (get:Nat→Option ABlk) (k:Nat) (x y:AOpd):stepD id f get (.copy k x y)=match f x,srcRowsD get k (f y) with
 | .sl b off len,some xs=>match get b with
  | some (.cells k' els)=>if k'=k∧off+len≤els.length then
   some (.int .i64 (min xs.length len:Nat),[(b,some (.cells k (cpR els off len xs)))])
   else none
  | _=>none
 | _,_=>none:=rfl
theorem srD_sl (get:Nat→Option ABlk) (k b off len:Nat):srcRowsD get k (.sl b off len)=rowsOfD get k (.sl b off len):=rfl
set_option maxRecDepth 100000 in
set_option maxHeartbeats 8000000 in
theorem cInsE (A:List (List AVal)) (x:List AVal) (hl:A.length≤1000) (hx:x.length=3) (hcA:closedLL A=true) (hcx:closedL x=true) :
 Ctr Tryz.prog 128 [.sl 1 0 A.length,.int .i64 A.length,.sl 2 0 1] ⟨[(1,.cells 3 A),(2,.cells 3 [x])],3⟩ fun r m=>r=.sl 3 0 (A.length+1)∧m=⟨[(3,.cells 3 (A++[x]))],4⟩:=by
 refine ctr_1 hm Tryz.func128 cf87 rfl rfl fun K hK=>?_
 have hrA:∀ q,renLL q A=A:=fun q=>renLL_closed q _ hcA
 have hrx:∀ q,renL q x=x:=fun q=>renL_closed q _ hcx
 have hb:A.length+1≤1048576:=by omega
 have hb2:¬A.length+1≤A.length:=by omega
 simp [appendRowsD,hb,hb2]
 exact endK hK [(3,20)] (by simp [hrA,hrx])
set_option maxRecDepth 100000 in
set_option maxHeartbeats 8000000 in
theorem cInsM (A:List (List AVal)) (x:List AVal) (i:Nat) (hi:i<A.length) (hl:A.length≤1000) (hx:x.length=3) (hcA:closedLL A=true) (hcx:closedL x=true) :
 Ctr Tryz.prog 128 [.sl 1 0 A.length,.int .i64 i,.sl 2 0 1] ⟨[(1,.cells 3 A),(2,.cells 3 [x])],3⟩ fun r m=>r=.sl 3 0 (A.length+1)∧m=⟨[(3,.cells 3 (A.take i++x :: A.drop i))],4⟩:=by
 refine ctr_XP (b:=1) (k:=3) (els:=A) hm ov_finger Tryz.func128 cf87 rfl rfl rfl fun K hK N hN=>?_
 have hrA:∀ q,renLL q A=A:=fun q=>renLL_closed q _ hcA
 have hrx:∀ q,renL q x=x:=fun q=>renL_closed q _ hcx
 have hK':=hK _ _ ⟨rfl,rfl⟩
 clear hK
 have hw:IntKind.i64.wrap ((A.length:Int)+1)=(A.length:Int)+1:=wrap64 (by omega) (by omega)
 have hin:¬(i:Int)=(A.length:Int):=by omega
 have hin':¬i=A.length:=by omega
 have hb0:i≤A.length:=by omega
 obtain⟨E,hE⟩:∃ E,A++List.replicate (N - A.length) (List.replicate 3 AVal.bot)=E:=⟨_,rfl⟩
 have hpad:padS ⟨[(1,.cells 3 A),(2,.cells 3 [x])],3⟩ 1 3 A N=⟨[(1,.cells 3 E),(1,.cells 3 A),(2,.cells 3 [x])],3⟩:=by rw [← hE]; rfl
 have hEl:E.length=N:=by rw [← hE]; simp; omega
 have hEt:∀ j,j≤A.length→E.take j=A.take j:=fun j hj=>by rw [← hE,List.take_append_of_le_length hj]
 have hEd:(E.drop i).take (A.length - i)=A.drop i:=by rw [← List.drop_take,hEt _ (Nat.le_refl _),List.take_length]
 rw [hpad]
 clear hpad
 have hN0:i≤N:=by omega
 have hN1:i≤E.length:=by omega
 have hN2:A.length≤E.length:=by omega
 have hw1:IntKind.i64.wrap ((A.length:Int)+1 - (i:Int))=((A.length+1 - i:Nat):Int):=by rw [wrap64 (by omega) (by omega)]; omega
 have hw2:IntKind.i64.wrap ((i:Int)+1)=((i+1:Nat):Int):=by rw [wrap64 (by omega) (by omega)]; omega
 have hs:i+(A.length+1 - i)=A.length+1:=by omega
 have hb1:A.length+1≤1048576:=by omega
 have hb2:i≤A.length+1:=by omega
 have hb3:i+1≤A.length+1:=by omega
 have hx1:(cpR (List.take i A++List.replicate (A.length+1 - i) [AVal.int IntKind.i64 0,AVal.bool false,AVal.int IntKind.i64 0]) i (A.length+1 - i) [x]).length=A.length+1:=by
  rw [cpR_len]<;>simp<;>omega
 have hx2:cpR (cpR (List.take i A++List.replicate (A.length+1 - i) [AVal.int IntKind.i64 0,AVal.bool false,AVal.int IntKind.i64 0]) i (A.length+1 - i) [x]) (i+1) (A.length - i) (A.drop i)=A.take i++x :: A.drop i:=by
  rw [show A.length+1 - i=(A.length - i)+1 by omega,List.replicate_succ]
  have e1:A.take i++[AVal.int IntKind.i64 0,AVal.bool false,AVal.int IntKind.i64 0] :: List.replicate (A.length - i) [AVal.int IntKind.i64 0,AVal.bool false,AVal.int IntKind.i64 0] =
   A.take i++[[AVal.int IntKind.i64 0,AVal.bool false,AVal.int IntKind.i64 0]]++List.replicate (A.length - i) [AVal.int IntKind.i64 0,AVal.bool false,AVal.int IntKind.i64 0]:=by simp
  have e3:=cpR_mid (P:=A.take i) (Q:=[[AVal.int IntKind.i64 0,AVal.bool false,AVal.int IntKind.i64 0]]) (S:=List.replicate (A.length - i) [AVal.int IntKind.i64 0,AVal.bool false,AVal.int IntKind.i64 0]) (xs:=[x]) (off:=i) (len:=A.length - i+1) (by simp; omega) rfl (by simp)
  rw [e1,e3]
  have e2:=cpR_mid (P:=A.take i++[x]) (Q:=List.replicate (A.length - i) [AVal.int IntKind.i64 0,AVal.bool false,AVal.int IntKind.i64 0]) (S:=[]) (xs:=A.drop i) (off:=i+1) (len:=A.length - i) (by simp; omega) (by simp) (by simp)
  rw [List.append_nil,List.append_nil] at e2
  rw [e2]
  simp
 have hi2:(0:Int)≤(A.length:Int)+1:=by omega
 have hi1:(0:Int)≤(i:Int)+1:=by omega
 have hs2:i+1+(A.length - i)=A.length+1:=by omega
 have hs3:i+(A.length - i)=A.length:=by omega
 have hrT:∀ q,renLL q (A.take i)=A.take i:=fun q=>by rw [renLL_map,List.map_take,← renLL_map,hrA]
 have hrD:∀ q,renLL q (A.drop i)=A.drop i:=fun q=>by rw [renLL_map,List.map_drop,← renLL_map,hrA]
 by_cases hroom:N<A.length+1
 · have h1:(N:Int)<(A.length:Int)+1:=by omega
   simp [hin,hin',hb0,hw,hroom,h1,hw1,hw2,hs,hb1,hb2,hb3,hN0,hN,hN1,hN2,hEt i hb0,hEl,rowsOfD,sd_copy,srD_sl,hx1,hx2,hs2,hs3,hEd,hi1]
   refine⟨_,Trim.refl _,?_⟩
   exact endK hK' [(3,32)] (by simp [hrT,hrD,hrx])
 · have hN3:A.length+1≤N:=by omega
   have hq1:cpR E (i+1) (A.length - i) (List.take (A.length+1 - i) (List.drop i E))=A.take i++[A[i]]++(A.drop i++E.drop (A.length+1)):=by
    rw [← cpR_take,List.take_take,Nat.min_eq_left (by omega),hEd]
    have e0:E=E.take (i+1)++(E.drop (i+1)).take (A.length - i)++E.drop (A.length+1):=by
     have:E.drop (A.length+1)=(E.drop (i+1)).drop (A.length - i):=by rw [List.drop_drop]; congr 1; omega
     rw [this,List.append_assoc,List.take_append_drop,List.take_append_drop]
    have e1:=cpR_mid (P:=E.take (i+1)) (Q:=(E.drop (i+1)).take (A.length - i)) (S:=E.drop (A.length+1)) (xs:=A.drop i) (off:=i+1) (len:=A.length - i) (by simp; omega) (by simp; omega) (by simp)
    rw [← e0] at e1
    rw [e1,hEt _ (by omega),List.take_succ_eq_append_getElem hi,List.append_assoc]
   have hx3:(cpR E (i+1) (A.length - i) (List.take (A.length+1 - i) (List.drop i E))).length=N:=by rw [cpR_len (by simp; omega)]; exact hEl
   have hx4:cpR (cpR E (i+1) (A.length - i) (List.take (A.length+1 - i) (List.drop i E))) i (A.length+1 - i) [x]=(A.take i++x :: A.drop i)++E.drop (A.length+1):=by
    have e3:=cpR_mid (P:=A.take i) (Q:=[A[i]]) (S:=A.drop i++E.drop (A.length+1)) (xs:=[x]) (off:=i) (len:=A.length+1 - i) (by simp; omega) rfl (by simp; omega)
    rw [hq1,e3]
    simp
   have h1:¬(N:Int)<(A.length:Int)+1:=by omega
   simp [hin,hin',hb0,hw,hroom,h1,hw1,hw2,hs,hb1,hb2,hb3,hN0,hN,hN1,hN2,hEl,hi1,rowsOfD,sd_copy,srD_sl,hs2,hs3,hEd,hi2,hi,hN3,hx3,hx4,ovOk,AE.isC]
   refine⟨by omega,endT (mt:=⟨[(1,.cells 3 (A.take i++x :: A.drop i))],54⟩) hK' [(3,1)] ⟨rfl,fun b y hy=>?_⟩ (by simp [hrT,hrD,hrx])⟩
   simp only [SMem.get,lookB] at hy ⊢
   split at hy
   · rename_i hb
     injection hy with hy
     subst hb
     subst hy
     refine .inr ⟨3,_,E.drop (A.length+1),rfl,?_⟩
     rw [if_pos rfl]
     simp
   · cases hy
end Go.Known
end
section
namespace Go.Known
open Go Go.AE Go.Proofs
open Go.Plain
theorem c88n:PCall Tryz.prog 115 [.nilSl] .nilSl:=by
 refine PCall_F hm 4 Tryz.func115 cf88 rfl rfl (by simp [closedL,AVal.closed]) rfl fun K hK=>?_
 have hK':=hK .nilSl ⟨[],1⟩ rfl
 clear hK
 simp [binA,eqA,eqNil,isNil]
 exact endK hK' [] (by simp)
theorem c88o:Ctr Tryz.prog 115 [.sl 1 0 0] ⟨[],2⟩ fun r sm=>r=.sl 2 0 0∧sm=⟨[(2,.cells 3 [])],3⟩:=by
 refine ctr_1 hm Tryz.func115 cf88 rfl rfl fun K hK=>?_
 simp [binA,eqA,eqNil,isNil,sr_slO,appendRowsD]
 exact endK hK [(2,5)] (by simp)
def stN (re lo f:Int) (ls:List Lt):ABlk:=.cells 5 [[.bot,.int .i64 re,.int .i64 lo,.int .i64 f,.imm (ls.map rowL)]]
def resP (re lo f:Int) (ls:List Lt) (r:AVal) (m:SMem):Prop:=
 (r=.tuple [.agg [.nilSl,.int .i64 re,.int .i64 lo],.agg [.int .i64 f,cpV 4 (ls.map rowL)]]∧m=⟨blV 4 6 (ls.map rowL) [(1,stN re lo f ls)],5⟩) ∨
 (r=.tuple [.agg [.sl 3 0 0,.int .i64 re,.int .i64 lo],.agg [.int .i64 f,cpV 4 (ls.map rowL)]]∧m=⟨(3,.cells 3 []) :: blV 4 6 (ls.map rowL) [(1,stN re lo f ls)],5⟩)
theorem bsub_st (V a b c d:AVal):BSub (.cells 5 [[.bot,a,b,c,d]]) (.cells 5 [[V,a,b,c,d]]):=by
 refine⟨rfl,rfl,fun i row row' h1 h2=>?_⟩
 match i,h1,h2 with
 | 0,h1,h2=>
  cases h1; cases h2
  refine⟨rfl,fun j x hj=>?_⟩
  match j,hj with
  | 0,hj=>cases hj; exact .inl rfl
  | j+1,hj=>exact .inr hj
 | i+1,h1,h2=>simp at h1
set_option maxRecDepth 100000 in
set_option maxHeartbeats 8000000 in
theorem c51n (re lo f:Int) (ls:List Lt) (h:ls.length≤1000) :
 Ctr Tryz.prog 65 [.ptr 1 0 0] ⟨[(1,stB [] re lo f ls)],2⟩ (resP re lo f ls):=by
 have hrr:∀ q,renLL q (ls.map rowL)=ls.map rowL:=fun q=>renLL_closed q _ (closed_rows ls)
 have h31:=fun h0=>c31s (ls.map rowL) h0 (by simpa using h) (rows6 ls) (closed_rows ls)
 have h31e:=c31e
 have hcL:=closed_rows ls
 refine Ctr_cell0 (ctr_P hm Tryz.func65 cf51 rfl rfl fun K hK=>?_) (ctr_P hm Tryz.func65 cf51 rfl rfl fun K hK=>?_)
 · have hK':=hK _ _ (.inl ⟨rfl,rfl⟩)
   clear hK
   unfold stN at hK'
   generalize ls.map rowL=rows at *
   simp
   refine DC_pure c88n ?_
   simp [FT.indep]
   by_cases hL:rows=[]
   · subst hL
     refine DC_pure h31e ?_
     simp [FT.indep]
     exact endK hK' [] (by simp [cpV,bsub_st])
   · refine DC_new (by simp [closedL,AVal.closed,hcL]) (by simp [hrr]) (h31 hL) ?_
     simp [FT.indep]
     exact endK hK' [(4,21)] (by simp [cpV,hL,hrr,bsub_st])
 · have hK':=hK _ _ (.inr ⟨rfl,rfl⟩)
   clear hK
   unfold stN at hK'
   generalize ls.map rowL=rows at *
   simp
   refine DC_new0 (by simp) c88o ?_
   simp [FT.indep]
   by_cases hL:rows=[]
   · subst hL
     refine DC_pure h31e ?_
     simp [FT.indep]
     exact endK hK' [(3,19)] (by simp [cpV,bsub_st])
   · refine DC_new (by simp [closedL,AVal.closed,hcL]) (by simp [hrr]) (h31 hL) ?_
     simp [FT.indep]
     exact endK hK' [(3,19),(4,22)] (by simp [cpV,hL,hrr,bsub_st])
theorem fzBk_stN (get:Nat→Option ABlk) (S:List Nat) (re lo f:Int) (ls:List Lt):fzBk get S (stN re lo f ls)=stN re lo f ls:=by
 have h:fzV get S .bot=.bot:=rfl
 unfold stN fzBk
 simp only [fzLL,List.map_cons,List.map_nil,fzV_immL,fzV_int,h]
theorem fzW_resN (get:Nat→Option ABlk) (S:List Nat) (c:Nat) (V:AVal) (B:List (List AVal)) (x y z:Int) (hV:fzW get S 1 V=V) :
 fzW get S 3 (.tuple [.agg [V,.int .i64 x,.int .i64 y],.agg [.int .i64 z,cpV c B]])=.tuple [.agg [V,.int .i64 x,.int .i64 y],.agg [.int .i64 z,fzV get S (cpV c B)]]:=by
 rw [← fzW_cp get S 0 c B]
 have:fzW get S 3 (.tuple [.agg [V,.int .i64 x,.int .i64 y],.agg [.int .i64 z,cpV c B]])=.tuple [.agg [fzW get S 1 V,.int .i64 x,.int .i64 y],.agg [.int .i64 z,fzW get S 1 (cpV c B)]]:=rfl
 rw [this,hV]
def resQ (re lo f:Int) (ls:List Lt) (r:AVal) (m:SMem):Prop:=
 (r=.tuple [.agg [.nilSl,.int .i64 re,.int .i64 lo],cV f ls]∧m=⟨[(1,stN re lo f ls)],5⟩) ∨
 (r=.tuple [.agg [.sl 3 0 0,.int .i64 re,.int .i64 lo],cV f ls]∧m=⟨[(3,.cells 3 []),(1,stN re lo f ls)],5⟩)
theorem c51q (re lo f:Int) (ls:List Lt) (h:ls.length≤1000) :
 Ctr Tryz.prog 65 [.ptr 1 0 0] ⟨[(1,stB [] re lo f ls)],2⟩ (resQ re lo f ls):=by
 refine(c51n re lo f ls h).freezeB fun r sm=>?_
 rintro(⟨rfl,rfl⟩ | ⟨rfl,rfl⟩)
 · refine⟨[4],.inl ⟨?_,?_⟩⟩
   · rw [fzW_resN _ _ _ _ _ _ _ _ rfl,fzV_cp (b:=4) (S:=[4]) (k:=6) (closed_rows ls) (scal_rows ls) rfl (by simp)]
   · rw [less_blS _ _ _ _ _ rfl]
     simp [lessB,memN,fzBl,fzBk_stN]
 · refine⟨[4],.inr ⟨?_,?_⟩⟩
   · rw [fzW_resN _ _ _ _ _ _ _ _ rfl,fzV_cp (b:=4) (S:=[4]) (k:=6) (closed_rows ls) (scal_rows ls) rfl (by simp)]
   · simp only [lessB,memN]
     rw [less_blS _ _ _ _ _ rfl]
     simp [lessB,memN,fzBl,fzBk_stN]
     simp [fzBk,fzLL]
end Go.Known
end
section
namespace Go.Known
open Go Go.AE Go.Proofs
open Go.Plain
def enF (fs gs:List Fg) (G d:Nat):List Fg:=fs.take G++(gs.take d++fs.drop G)
def lfA (a:Int) (d:Nat):Int:=if d=0 then a else 0
def enD (g a:Int) (ls:List Lt):Nat→List Lt
 | 0=>ls
 | d+1=>inN (g+d) (lfA a d) (enD g a ls d)
theorem enF_zero {fs gs:List Fg} {G:Nat}:enF fs gs G 0=fs:=by simp [enF]
theorem enF_length {fs gs:List Fg} {G d:Nat} (hd:d≤gs.length):(enF fs gs G d).length=fs.length+d:=by
 unfold enF
 simp
 omega
theorem enF_succ {fs gs:List Fg} {G d:Nat} (hG:G≤fs.length) (hd:d<gs.length):enF fs gs G (d+1)=(enF fs gs G d).take (G+d)++fgAt gs d :: (enF fs gs G d).drop (G+d):=by
 have h1:(fs.take G++gs.take d).length=G+d:=by simp; omega
 have h2:gs.take (d+1)=gs.take d++[fgAt gs d]:=by rw [List.take_succ_eq_append_getElem hd,fgAt_eq hd]
 unfold enF
 rw [h2,← List.append_assoc (fs.take G) (gs.take d),← h1,List.take_left,List.drop_left]
 simp
theorem enD_length {g a:Int} {ls:List Lt}:∀ d,(enD g a ls d).length=ls.length
 | 0=>rfl
 | d+1=>by simp [enD,inN,enD_length d]
theorem enD_ok {f g a:Int} {ls:List Lt} (he:errC f ls=0) (hp:okP f g a ls):∀ d:Nat,f+d≤40→errC (f+d) (enD g a ls d)=0
 | 0,_=>by simpa [enD] using he
 | d+1,hd=>by
  have ih:=enD_ok he hp d (by omega)
  have hI:okI (f+d) (g+d) (lfA a d) (enD g a ls d):=by
   obtain⟨p1,p2,p3,p4⟩:=hp
   unfold lfA
   by_cases h0:d=0
   · subst h0
     simp only [if_true,enD]
     exact⟨by omega,by omega,p3,by omega,by simpa using p4⟩
   · rw [if_neg h0]
     exact⟨by omega,by omega,by omega,by omega,by omega⟩
  have:=errC_ins ih hI
  rw [show f+((d+1:Nat):Int)=f+d+1 by omega]
  exact this
theorem okI_iff {f g a:Int} {ls:List Lt} (d:Nat) (hp:0<d→okP f g a ls):okI (f+d) (g+d) (lfA a d) (enD g a ls d)↔okP f g a ls∧f+d<40:=by
 unfold lfA
 by_cases h0:d=0
 · subst h0
   have hz:((0:Nat):Int)=0:=rfl
   simp only [if_true,enD,hz,Int.add_zero]
   unfold okI okP
   constructor
   · rintro⟨p1,p2,p3,p4,p5⟩; exact⟨⟨p1,p2,p3,p5⟩,p4⟩
   · rintro⟨⟨p1,p2,p3,p5⟩,p4⟩; exact⟨p1,p2,p3,p4,p5⟩
 · rw [if_neg h0]
   have:=hp (by omega)
   obtain⟨p1,p2,p3,p4⟩:=this
   unfold okI okP
   constructor
   · rintro⟨q1,q2,q3,q4,q5⟩; exact⟨⟨p1,p2,p3,p4⟩,q4⟩
   · rintro⟨_,q⟩; exact⟨by omega,by omega,by omega,by omega,by omega⟩
noncomputable def enE (fs gs:List Fg) (re lo g a:Int) (ls:List Lt):Int:=
 if gs=[] then 2 else if mixP gs=true then 2 else if ¬(okP fs.length g a ls∧(fs.length:Int)+gs.length≤40) then 2
 else if frB (enF fs gs g.toNat gs.length) re lo=false then 2 else if posB (enD g a ls gs.length)=false then 4 else 0
theorem cIns (A:List (List AVal)) (x:List AVal) (i:Nat) (hi:i≤A.length) (hl:A.length≤1000) (hx:x.length=3) (hcA:closedLL A=true) (hcx:closedL x=true) :
 Ctr Tryz.prog 128 [.sl 1 0 A.length,.int .i64 i,.sl 2 0 1] ⟨[(1,.cells 3 A),(2,.cells 3 [x])],3⟩ fun r m=>r=.sl 3 0 (A.length+1)∧m=⟨[(3,.cells 3 (A.take i++x :: A.drop i))],4⟩:=by
 by_cases h:i=A.length
 · subst h
   have:=cInsE A x hl hx hcA hcx
   rw [List.take_length,List.drop_length]
   exact this
 · exact cInsM A x i (by omega) hl hx hcA hcx
theorem cInsN (x:List AVal) (hx:x.length=3) (hcx:closedL x=true) :
 Ctr Tryz.prog 128 [.nilSl,.int .i64 0,.sl 1 0 1] ⟨[(1,.cells 3 [x])],2⟩ fun r m=>r=.sl 2 0 1∧m=⟨[(2,.cells 3 [x])],3⟩:=by
 refine ctr_1 hm Tryz.func128 cf87 rfl rfl fun K hK=>?_
 have hrx:∀ q,renL q x=x:=fun q=>renL_closed q _ hcx
 simp [appendRowsD]
 exact endK hK [(2,19)] (by simp [hrx])
end Go.Known
end
