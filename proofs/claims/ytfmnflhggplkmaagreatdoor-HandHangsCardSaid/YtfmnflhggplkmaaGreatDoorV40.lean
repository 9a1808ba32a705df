/- Part 40 of the proof: Rx, AeNj, AeNk, Sf, Sj, Sp, Pz, Lm, Sx. -/
import Derived.Test.YtfmnflhggplkmaaGreatDoorV24
import Derived.Test.YtfmnflhggplkmaaGreatDoorV27
import Derived.Test.YtfmnflhggplkmaaGreatDoorV38
import Derived.Test.YtfmnflhggplkmaaGreatDoorV39
set_option linter.all false
section
namespace Go.Known
open Go Go.AE Go.Proofs
open Go.Plain
theorem scal_rows {get:Nat→Option ABlk} {n:Nat} (l:List Lt):∀ row,row∈l.map rowL → ∀ x,x∈row→freezeV get (n+1) x=some x:=by
 intro row hr x hx
 obtain⟨i,_,rfl⟩:=List.mem_map.1 hr
 simp only[rowL,List.mem_cons,List.not_mem_nil,or_false]at hx
 rcases hx with rfl|rfl|rfl|rfl|rfl|rfl<;>rfl
end Go.Known
end
section
namespace Go.AE
open Go.RowKit
variable {P:Program}
def EqRB (q:Nat→Nat):List (Nat×ABlk)→SMem→Prop
 | [],_=>True
 | (b,x) :: r,m=>m.get (q b)=some (x.ren q)∧EqRB q r m
theorem EqRB.get {q:Nat→Nat}:∀ {l:List (Nat×ABlk)} {m:SMem},EqRB q l m → ∀ c x,lookB l c=some x→m.get (q c)=some (x.ren q)
 | [],_,_,c,x,h=>by simp[lookB]at h
 | (b,y) :: r,m,hs,c,x,h=>by
  simp only[lookB]at h
  split at h
  ·rename_i e; subst e; injection h with h; subst h; exact hs.1
  ·exact hs.2.get c x h
end Go.AE
end
section
namespace Go.AE
open Go.RowKit
variable {P:Program}
def E0 (v:AVal):Prop:=∀ (Φ:Pers) (ρ:Rho) (u:Value),R Φ ρ v u → ∀(Φ':Pers) (ρ':Rho),R Φ' ρ' (.imm []) u
theorem E0_nil:E0 .nilSl:=fun Φ ρ u h Φ' ρ'=>by
 cases h
 exact .imm0 _ _ fun hp=>absurd hp (by omega)
end Go.AE
end
section
namespace Go.Known
open Go Go.AE Go.Proofs
open Go.Plain
theorem same_rowL (a b:Lt):sameCells [.int,.int,.int,.int,.int,.bool] (rowL a) (rowL b)=some (decide (a=b)):=by
 obtain⟨a1,a2,a3,a4,a5,a6⟩:=a
 obtain⟨b1,b2,b3,b4,b5,b6⟩:=b
 simp only[rowL,sameCells,keyEq,if_true,Lt.mk.injEq]
 grind
theorem ne_rowL (a b:Lt):binA .neq (.flat [.int,.int,.int,.int,.int,.bool]) (.agg (rowL a)) (.agg (rowL b))=some (.bool (!decide (a=b))):=by
 simp only[binA,eqA,same_rowL]
theorem get_row (ls:List Lt) {i:Nat} (h:i<ls.length):(ls.map rowL)[i]? = some (rowL (at' ls i)):=by
 rw[List.getElem?_map,List.getElem?_eq_getElem h,at',List.getD,List.getElem?_eq_getElem h]
 rfl
theorem drop_same {a b:List Lt} {i:Nat} (ha:i<a.length) (hb:i<b.length) (h:at' a i=at' b i):(a.drop i=b.drop i)=(a.drop (i+1)=b.drop (i+1)):=by
 rw[List.drop_eq_getElem_cons ha,List.drop_eq_getElem_cons hb]
 have e:a[i]=b[i]:=by simpa[at',List.getD,ha,hb]using h
 grind
end Go.Known
end
section
namespace Go.AE
open Go.RowKit
variable {P:Program}
def Wk (v v':AVal):Prop:=∀ (Φ:Pers) (ρ:Rho) (u:Value),R Φ ρ v u→R Φ ρ v' u
def WkL:List AVal→List AVal→Prop
 | [],[]=>True
 | x :: r,y :: s=>Wk x y∧WkL r s
 | _,_=>False
theorem Wk.refl (v:AVal):Wk v v:=fun _ _ _ h=>h
theorem Wk_nil:Wk .nilSl (.imm []):=fun Φ ρ u h=>E0_nil Φ ρ u h Φ ρ
theorem WkL_get:∀ {xs ys:List AVal},WkL xs ys→xs.length=ys.length ∧ ∀(i:Nat) (y:AVal),ys[i]? = some y → ∃ x,xs[i]? = some x∧Wk x y
 | [],[],_=>⟨rfl,fun i y h=>by simp at h⟩
 | [],_ :: _,h=>h.elim
 | _ :: _,[],h=>h.elim
 | x :: r,y :: s,h=>by
  obtain⟨h1,h2⟩:=WkL_get h.2
  refine⟨by simp[h1],fun i z hz=>?_⟩
  cases i with
  | zero=>cases hz; exact⟨x,rfl,h.1⟩
  | succ i=>grind
theorem Wk_agg {xs ys:List AVal} (h:WkL xs ys):Wk (.agg xs) (.agg ys):=fun Φ ρ u hu=>by
 obtain⟨h1,h2⟩:=WkL_get h
 cases hu with
 | agg cs vs hs hr=>
  refine .agg _ _ (by rw[hs,h1]) fun i y v hy hv=>?_
  obtain⟨x,hx,hw⟩:=h2 i y hy
  exact hw _ _ _ (hr i x v hx hv)
theorem Wk_tuple {xs ys:List AVal} (h:WkL xs ys):Wk (.tuple xs) (.tuple ys):=fun Φ ρ u hu=>by
 obtain⟨h1,h2⟩:=WkL_get h
 cases hu with
 | tuple cs vs hs hr=>
  refine .tuple _ _ (by rw[hs,h1]) fun i y v hy hv=>?_
  obtain⟨x,hx,hw⟩:=h2 i y hy
  exact hw _ _ _ (hr i x v hx hv)
theorem PCall.wk {g:FuncId} {args:List AVal} {v v':AVal} (h:PCall P g args v) (hv:Wk v v'):PCall P g args v':=by
 intro m av
 refine⟨(h m av).1,fun W Φ ρ vs w hr ha hav=>((h m av).2 W Φ ρ vs w hr ha hav).mono fun e w' he=>?_⟩
 obtain⟨u,r,m',Φ',ρ',e1,hE,hk,hr',hR,hn,rfl,rfl⟩:=he
 exact⟨u,_,_,Φ',ρ',e1,hE,hk,hr',hv _ _ _ hR,hn,rfl,rfl⟩
end Go.AE
namespace Go.Known
open Go Go.AE Go.Proofs
open Go.Plain
end Go.Known
end
section
namespace Go.Known
open Go Go.AE Go.Proofs
open Go.Plain
set_option maxRecDepth 100000 in
set_option maxHeartbeats 8000000 in
theorem c12v (f g:Int) (a b:List Lt) (ha:a.length≤1000) (hb:b.length≤1000):PCall Tryz.prog 21 [cV f a,cV g b] (.bool (decide (f=g)&&decide (a=b))):=by
 refine PCall_1 hm Tryz.func21 cf12 rfl rfl (by simp[closedL,AVal.closed,closed_rows]) trivial fun K hK=>?_
 have hra:∀ q,renLL q (a.map rowL)=a.map rowL:=fun q=>renLL_closed q _ (closed_rows a)
 have hrb:∀ q,renLL q (b.map rowL)=b.map rowL:=fun q=>renLL_closed q _ (closed_rows b)
 have hla:(a.map rowL).length=a.length:=by grind
 have hlb:(b.map rowL).length=b.length:=by grind
 have hga:=fun i hi=>get_row a (i:=i) hi
 have hgb:=fun i hi=>get_row b (i:=i) hi
 unfold cV at *
 generalize a.map rowL=A at *
 generalize b.map rowL=B at *
 by_cases hfg:f=g
 rotate_left
 ·rw[decide_eq_false hfg,Bool.false_and]at hK
  simp[hfg]
  exact endK hK [] (by simp)
 subst hfg
 rw[decide_eq_true rfl,Bool.true_and]at hK
 by_cases hl:a.length=b.length
 rotate_left
 ·have hne:¬a=b:=fun e=>hl (by rw[e])
  rw[decide_eq_false hne]at hK
  have hl':¬(a.length:Int)=(b.length:Int):=by omega
  simp[hla,hlb,hl']
  exact endK hK [] (by simp)
 simp[hla,hlb,hl]
 refine wZ_loop (α:=Nat) (fun i=>[(5,.int .i64 i),(3,.ptr 2 0 0),(2,.ptr 1 0 0)]) (fun _=>⟨[(1,.cells 2 [[.int .i64 f,.imm A]]),(2,.cells 2 [[.int .i64 f,.imm B]])],3⟩) (fun i=>a.length - i) (fun i=>i≤a.length∧(a.drop i=b.drop i)=(a=b)) 0 [] (by simp[hra,hrb]) (by simp) ?_
 rintro i ⟨hi,hI⟩ N hN
 try simp only at hi hN ⊢
 by_cases hlt:i<a.length
 ·have ga:=hga i hlt
  have gb:=hgb i (by omega)
  obtain⟨_,ga2⟩:=getE ga
  obtain⟨_,gb2⟩:=getE gb
  have hw:IntKind.i64.wrap ((i:Int)+1)=(i:Int)+1:=wrap64 (by omega) (by omega)
  have he:=ne_rowL (at' a i) (at' b i)
  have l6a:(rowL (at' a i)).length=6:=rfl
  have l6b:(rowL (at' b i)).length=6:=rfl
  have t6a:(rowL (at' a i)).take 6=rowL (at' a i):=rfl
  have t6b:(rowL (at' b i)).take 6=rowL (at' b i):=rfl
  by_cases hab:at' a i=at' b i
  ·have hN':=hN (i+1) []
   rw[hab]at he
   rw[decide_eq_true rfl]at he
   rw[drop_same hlt (by omega) hab]at hI
   rw[hab]at ga ga2
   generalize rowL (at' b i)=rb at *
   simp[hlt,hla,gb,ga2,hw,l6b,t6b,he]
   exact hN' _ _ (by omega) ⟨by omega,hI⟩ (by simp[hra,hrb])
  ·rw[decide_eq_false hab]at he
   have hne:¬a=b:=by
    grind
   rw[decide_eq_false hne]at hK
   generalize rowL (at' a i)=ra at *
   generalize rowL (at' b i)=rb at *
   simp[hlt,hla,gb,ga2,l6a,l6b,t6a,t6b,he]
   exact endK hK [] (by simp)
 ·have hie:i=a.length:=by omega
  have hyes:a=b:=by
   grind
  rw[decide_eq_true hyes]at hK
  simp[hlt,hla]
  exact endK hK [] (by simp)
end Go.Known
end
section
namespace Go.Known
open Go.Plain
section
variable {n:Int} {ls:List Lt}
end
theorem ValR.key {f:Int} {ls:List Lt} (h:ValR f ls) {l:Lt} (hm:l∈ls) (hp:isP l=true):l.k=1∧1≤l.r∧l.r≤inG l.g ls∧0≤l.g∧l.g≤f:=by
 have hk:l.k=1:=by simpa[isP]using hp
 obtain⟨_,_,_,a,b,c,d,_⟩:=(okR_pass hk).1 (h.okr l hm)
 omega
end Go.Known
end
section
namespace Go.Known
open Go Go.AE Go.Proofs
def ajRValid:AFn:=⟨67,[(2,none)],(sr [bo 1 0,mfZ 2]
 (.seq (sr [fa 5 0 1,lo 6 5,le 7 6,cGk 8 7 40,mv 9 8,gff 10 9 1 1,gfl 11 9 10,gZ 12 9 false (.bin .lss .num (tZ 11) (kZ 0)),pk1 13 9 12,mv 14 13,gff 15 14 1 1,gfl 16 14 15,gZ 17 14 false (.bin .gtr .num (tZ 16) (kZ 40)),pk1 18 14 17,mv 19 18,gff 20 19 2 1,gfl 21 19 20,gZ 22 19 false (.bin .lss .num (tZ 21) (kZ 1)),pk1 23 19 22,mv 24 23,gff 25 24 2 1,gfl 26 24 25,gZ 27 24 false (.bin .gtr .num (tZ 26) (kZ 20)),pk1 28 24 27]
 (.cond (tZ 28) (sr [mfZ 2]
 .ret)
 .skip))
 (.seq (sr [mk 3 0]
 (.block 0 (.loop (.seq (sr [mv 29 3,fa 30 0 1,lo 31 30,le 32 31,cL 33 29 32]
 (.cond (tZ 33) .skip
 (.exit 0)))
 (.seq (.block 1 (sr [fa 36 0 1,lo 37 36,mv 38 3,ix 39 3 37 38,lw 40 3 39,oZ 4 (.alloc [(.int .i64 0),(.bool false),(.int .i64 0)]),so 3 4 40]
 (sr [fa 41 0 4,lo 42 41,cLk 43 42 1,mv 44 43,gff 45 44 0 4,gfl 46 44 45,gZ 47 44 false (.bin .gtr .num (tZ 46) (kZ 9)),pk1 48 44 47,mv 49 48,gff 50 49 2 4,gfl 51 49 50,gZ 52 49 false (.bin .lss .num (tZ 51) (kZ 0)),pk1 53 49 52,mv 54 53,gff 55 54 2 4,gfl 56 54 55,gZ 57 54 false (.bin .gtr .num (tZ 56) (kZ 6)),pk1 58 54 57,mv 59 58,gZ 60 59 false (.load (some 3) (tZ 1)),gZ 61 59 false (.load (some 3) (tZ 4)),gZ 62 59 false (.call (.fn 13) [tZ 60,tZ 61]),gfm 63 59 3,gZ 64 59 false (.bin .add .num (tZ 63) (kZ 1)),gZ 65 59 false (.bin .neq .num (tZ 62) (tZ 64)),pk1 66 59 65]
 (.cond (tZ 66) (sr [mfZ 2]
 .ret)
 .skip))))
 (rf [mv 34 3,aDk 35 34 1,mv 3 35]))))))
 (sr [mtZ 2]
 .ret))))⟩
theorem cjRValid:cFn Tryz.prog Tryz.f11=some ajRValid:=by kernel_rfl
def ajRIndex:AFn:=⟨22,[(4,none)],(sr [bo 2 0,bo 3 1,mk 4 0]
 (.seq (sr [mk 5 0]
 (.block 0 (.loop (.seq (sr [mv 6 5,fa 7 0 2,lo 8 7,le 9 8,cL 10 6 9]
 (.cond (tZ 10) .skip
 (.exit 0)))
 (.seq (.block 1 (.seq (.region true [fa 13 0 2,lo 14 13,mv 15 5,ix 16 3 14 15,lw 17 3 16,lw 18 3 3,oZ 19 (.bin .eql (.flat [.int,.bool,.int]) (tZ 17) (tZ 18))])
 (.cond (tZ 19) (sr [mv 20 5,aDk 21 20 1,mv 4 21]
 .ret)
 .skip)))
 (rf [mv 11 5,aDk 12 11 1,mv 5 12]))))))
 (sr [mk 4 0]
 .ret)))⟩
theorem cjRIndex:cFn Tryz.prog Tryz.f13=some ajRIndex:=by kernel_rfl
end Go.Known
end
section
namespace Go.Known
open Go Go.AE Go.Proofs
open Go.Plain
structure Fg where
 p:Int
 r:Bool
 d:Int
deriving DecidableEq,Inhabited
def rowG (x:Fg):List AVal:=[.int .i64 x.p,.bool x.r,.int .i64 x.d]
def frV (fs:List Fg) (re lo:Int):AVal:=.agg [.imm (fs.map rowG),.int .i64 re,.int .i64 lo]
def fgAt (fs:List Fg) (i:Nat):Fg:=fs.getD i default
def fiG (x:Fg) (fs:List Fg):Nat:=fs.findIdx fun y=>decide (y=x)
theorem closed_rowG:∀ (fs:List Fg),closedLL (fs.map rowG)=true
 | []=>rfl
 | l :: r=>by simp only[List.map_cons,closedLL,closed_rowG r,Bool.and_true]; rfl
theorem get_rowG (fs:List Fg) {i:Nat} (h:i<fs.length):(fs.map rowG)[i]? = some (rowG (fgAt fs i)):=by
 rw[List.getElem?_map,List.getElem?_eq_getElem h,fgAt,List.getD,List.getElem?_eq_getElem h]
 rfl
theorem fgAt_eq {fs:List Fg} {i:Nat} (h:i<fs.length):fgAt fs i=fs[i]:=by rw[fgAt,List.getD,List.getElem?_eq_getElem h]; rfl
theorem same_rowG (a b:Fg):sameCells [.int,.bool,.int] (rowG a) (rowG b)=some (decide (a=b)):=by
 obtain⟨a1,a2,a3⟩:=a
 obtain⟨b1,b2,b3⟩:=b
 simp only[rowG,sameCells,keyEq,if_true,Fg.mk.injEq]
 by_cases h1:a1=b1
 ·by_cases h2:a2=b2
  ·by_cases h3:a3=b3
   ·simp[h1,h2,h3]
   ·simp[h1,h2,h3,beq_false_of_ne h3]
  ·simp[h1,h2,beq_false_of_ne h2]
 ·simp[h1,beq_false_of_ne h1]
theorem eq_rowG (a b:Fg):binA .eql (.flat [.int,.bool,.int]) (.agg (rowG a)) (.agg (rowG b))=some (.bool (decide (a=b))):=by
 simp only[binA,eqA,same_rowG]
theorem fi_le (x:Fg) (fs:List Fg):fiG x fs≤fs.length:=List.findIdx_le_length
theorem fi_eq {x:Fg} {fs:List Fg} {i:Nat} (h:i<fs.length) (hx:fgAt fs i=x) (hn:∀ j,j<i→fgAt fs j≠x):fiG x fs=i:=by
 unfold fiG
 rw[List.findIdx_eq h]
 refine⟨by rw[← fgAt_eq h,hx]; simp,fun j hj=>?_⟩
 have:=hn j hj
 rw[fgAt_eq (by omega)]at this
 simpa using this
theorem fi_none {x:Fg} {fs:List Fg} (hn:∀ j,j<fs.length→fgAt fs j≠x):fiG x fs=fs.length:=by
 unfold fiG
 rw[List.findIdx_eq_length]
 intro y hy
 obtain⟨j,hj,rfl⟩:=List.getElem_of_mem hy
 have:=hn j hj
 rw[fgAt_eq hj]at this
 simpa using this
def fiI (x:Fg) (fs:List Fg):Int:=if fiG x fs<fs.length then (fiG x fs:Int)else -1
set_option maxRecDepth 100000 in
set_option maxHeartbeats 4000000 in
theorem c150 (x:Fg) (fs:List Fg) (h:fs.length≤1000):PCall Tryz.prog 34 [.imm (fs.map rowG),.agg (rowG x)] (.int .i64 (fiI x fs)):=by
 refine PCall_1 hm Tryz.func34 cf150 rfl rfl (by simp[closedL,AVal.closed,closed_rowG,rowG]) trivial fun K hK=>?_
 have hrr:∀ q,renLL q (fs.map rowG)=fs.map rowG:=fun q=>renLL_closed q _ (closed_rowG fs)
 have hrx:∀ q,renL q (rowG x)=rowG x:=fun q=>rfl
 have hlen:(fs.map rowG).length=fs.length:=List.length_map ..
 have hg:=fun i hi=>get_rowG fs (i:=i) hi
 have l3:∀ y:Fg,(rowG y).length=3:=fun _=>rfl
 have t3:∀ y:Fg,(rowG y).take 3=rowG y:=fun _=>rfl
 have hq:=fun y=>eq_rowG x y
 generalize fs.map rowG=rows at *
 have hl0:=l3 x
 have ht0:=t3 x
 simp[hlen,hl0]
 refine wZ_loop (α:=Nat) (fun i=>[(8,.int .i64 i),(7,.int .i64 fs.length),(6,.imm rows),(0,.imm rows),(3,.ptr 1 0 0)]) (fun _=>⟨[(1,.cells 3 [rowG x])],2⟩) (fun i=>fs.length - i) (fun i=>i≤fs.length ∧ ∀ j,j<i→fgAt fs j≠x) 0 [] (by simp[hrr,hrx]) (by simp) ?_
 rintro i ⟨hi,hI⟩ N hN
 try simp only at hi hN ⊢
 by_cases hlt:i<fs.length
 ·have hgi:=hg i hlt
  obtain⟨hgl,hg2⟩:=getE hgi
  have hw:IntKind.i64.wrap ((i:Int)+1)=(i:Int)+1:=wrap64 (by omega) (by omega)
  have he:=hq (fgAt fs i)
  have hl1:=l3 (fgAt fs i)
  have ht1:=t3 (fgAt fs i)
  by_cases hx:x=fgAt fs i
  ·have hfi:fiI x fs=(i:Int):=by
    unfold fiI
    rw[fi_eq hlt hx.symm hI,if_pos hlt]
   rw[hfi]at hK
   rw[decide_eq_true hx]at he
   generalize rowG (fgAt fs i)=ra at *
   generalize rowG x=rb at *
   simp[hlt,hgi,hl0,ht0,hl1,ht1,he]
   exact endK hK [] (by simp)
  ·rw[decide_eq_false hx]at he
   generalize rowG (fgAt fs i)=ra at *
   generalize rowG x=rb at *
   simp[hlt,hgi,hw,hl0,ht0,hl1,ht1,he]
   refine hN (i+1) [] _ _ (by omega) ⟨by omega,fun j hj e=>?_⟩ (by simp[hrr,hrx])
   by_cases hji:j=i
   ·subst hji; exact hx e.symm
   ·exact hI j (by omega) e
 ·have hie:i=fs.length:=by omega
  have hfi:fiI x fs = -1:=by
   unfold fiI
   rw[fi_none (fun j hj=>hI j (by omega)),if_neg (by omega)]
  rw[hfi]at hK
  simp[hlt]
  exact endK hK [] (by simp)
end Go.Known
end
