/- Part 47 of the proof: Sk. -/
import Derived.Test.YtpaedbidpkepnaaGreatDoorC41
import Derived.Test.YtpaedbidpkepnaaGreatDoorC46
set_option linter.all false
namespace Go.Known
open Go Go.AE Go.Proofs
open Go.Plain
def imgI (f:Int) (ls:List Lt) (i:Nat):List Lt:=img3 (decide (i % 2=1)) (img2 f (decide (2≤i % 4)) (img1 (decide (4≤i)) ls))
def hasI (f:Int) (ls:List Lt) (i:Nat):Bool:=decide (normN ls=normN (imgI f ls i))
def symN (f:Int) (ls:List Lt) (k:Nat):List Nat:=(List.range k).filter (hasI f ls)
def symL (f:Int) (ls:List Lt) (k:Nat):List (List AVal):=(symN f ls k).map symR
theorem symN_succ (f:Int) (ls:List Lt) (k:Nat):symN f ls (k+1)=if hasI f ls k then symN f ls k++[k] else symN f ls k:=by
 unfold symN
 rw [List.range_succ,List.filter_append,List.filter_cons]
 split<;>simp
theorem symL_succ (f:Int) (ls:List Lt) (k:Nat):symL f ls (k+1)=if hasI f ls k then symL f ls k++[symR k] else symL f ls k:=by
 unfold symL
 rw [symN_succ]
 split<;>simp
theorem symN_le (f:Int) (ls:List Lt) (k:Nat):(symN f ls k).length≤k:=by
 unfold symN
 exact Nat.le_trans (List.length_filter_le _ _) (by simp)
theorem closed_symM (l:List Nat):∀ q,renLL q (l.map symR)=l.map symR:=fun q=>by
 rw [renLL_map,List.map_map]
 rfl
theorem closedLL_symM:∀ (l:List Nat),closedLL (l.map symR)=true
 | []=>rfl
 | _ :: r=>by
  have:=closedLL_symM r
  simp only [List.map_cons,closedLL,this,Bool.and_true]
  rfl
theorem scal_symM {get:Nat→Option ABlk} {n:Nat} (l:List Nat):∀ row,row∈l.map symR → ∀ x,x∈row→freezeV get (n+1) x=some x:=by
 intro row hr x hx
 obtain⟨i,_,rfl⟩:=List.mem_map.1 hr
 simp only [symR,List.mem_cons,List.not_mem_nil,or_false] at hx
 rcases hx with rfl | rfl | rfl<;>rfl
theorem and4 {i:Nat} (h:i<8):∃ x:Int,binA .and .num (.int .i64 (i:Int)) (.int .i64 4)=some (.int .i64 x)∧decide (x=0) = !decide (4≤i):=by
 rcases (show i=0∨i=1∨i=2∨i=3∨i=4∨i=5∨i=6∨i=7 by omega) with rfl | rfl | rfl | rfl | rfl | rfl | rfl | rfl<;>exact ⟨_,rfl,by decide⟩
theorem and2 {i:Nat} (h:i<8):∃ x:Int,binA .and .num (.int .i64 (i:Int)) (.int .i64 2)=some (.int .i64 x)∧decide (x=0) = !decide (2≤i % 4):=by
 rcases (show i=0∨i=1∨i=2∨i=3∨i=4∨i=5∨i=6∨i=7 by omega) with rfl | rfl | rfl | rfl | rfl | rfl | rfl | rfl<;>exact ⟨_,rfl,by decide⟩
theorem and1 {i:Nat} (h:i<8):∃ x:Int,binA .and .num (.int .i64 (i:Int)) (.int .i64 1)=some (.int .i64 x)∧decide (x=0) = !decide (i % 2=1):=by
 rcases (show i=0∨i=1∨i=2∨i=3∨i=4∨i=5∨i=6∨i=7 by omega) with rfl | rfl | rfl | rfl | rfl | rfl | rfl | rfl<;>exact ⟨_,rfl,by decide⟩
set_option maxRecDepth 100000 in
set_option maxHeartbeats 8000000 in
theorem c10v (f:Int) (ls:List Lt) (h:ls.length≤1000) (he:errC f ls=0):PCall Tryz.prog 6 [cV f ls] (.tuple [imV (symL f ls 8),.int .i64 0]):=by
 refine PCall_F hm 4 Tryz.func6 cf10 rfl rfl (by simp [closedL,AVal.closed,closed_rows]) (by simp [AVal.closed,closedL,closed_imV,symL,closedLL_symM]) fun K hK=>?_
 have h30:=c30 f ls h
 rw [he] at h30
 have hrr:∀ q,renLL q (ls.map rowL)=ls.map rowL:=fun q=>renLL_closed q _ (closed_rows ls)
 have himg:∀ i,PCall Tryz.prog 7 [cV f ls,.agg (symR i)] (.tuple [cV f (imgI f ls i),.int .i64 0])∧errC f (imgI f ls i)=0∧(imgI f ls i).length≤1000:=fun i=>by
  obtain⟨h1,h2,h3,_⟩:=c9w f ls (decide (4≤i)) (decide (2≤i % 4)) (decide (i % 2=1)) h he
  exact⟨h1,h2,h3⟩
 have hsame:∀ i,PCall Tryz.prog 21 [cV f ls,cV f (imgI f ls i)] (.tuple [.bool (hasI f ls i),.int .i64 0]):=fun i=>by
  have:=c34v f f ls (imgI f ls i) he (himg i).2.1 h (himg i).2.2
  rw [decide_eq_true rfl,Bool.true_and] at this
  exact this
 have hKv:=hK (.tuple [slV 1 (symL f ls 8),.int .i64 0]) ⟨blV 1 3 (symL f ls 8) [],2⟩ (by
  by_cases h0:symL f ls 8=[]
  · rw [h0]; rfl
  · rw [slV_ne h0,imV_ne h0,freezeV]
    simp only [mapO]
    have hfz:=freeze_rows (n:=2) (get:=SMem.get ⟨blV 1 3 (symL f ls 8) [],2⟩) (b:=1) (k:=3) (rows:=symL f ls 8) (by simp [blV_ne,h0]) (scal_symM _)
    rw [hfz]
    rfl)
 clear hK
 have hr:∀ i q,renLL q (symL f ls i)=symL f ls i:=fun i q=>closed_symM _ q
 have hl:∀ i,i≤8→(symL f ls i).length≤1048575:=fun i hi=>by
  have:=symN_le f ls i
  unfold symL
  rw [List.length_map]
  omega
 have hs:=fun i=>symL_succ f ls i
 have himg':=fun i=>(himg i).1
 clear himg
 have hs0:symL f ls 0=[]:=rfl
 unfold cV at *
 generalize symL f ls=S at *
 generalize ls.map rowL=rows at *
 simp
 refine SC_pure h30 ?_
 simp
 refine wZ_loop (α:=Nat) (fun i=>[(17,.int .i64 i),(5,slV 2 (S i)),(1,.ptr 1 0 0)]) (fun i=>⟨(1,.cells 2 [[.int .i64 f,.imm rows]]) :: blV 2 3 (S i) [],3⟩) (fun i=>8 - i) (fun i=>i≤8) 0 [] (by simp [hrr,hs0]) (by simp) ?_
 intro i hi N hN
 try simp only at hi hN ⊢
 by_cases hlt:i<8
 · have hlt':(i:Int)<8:=by omega
   have hw:IntKind.i64.wrap ((i:Int)+1)=(i:Int)+1:=wrap64 (by omega) (by omega)
   obtain⟨x4,a4,d4⟩:=and4 hlt
   obtain⟨x2,a2,d2⟩:=and2 hlt
   obtain⟨x1,a1,d1⟩:=and1 hlt
   have hi1:=himg' i
   have hsm:=hsame i
   have hsi:=hs i
   have hri:=hr i
   have hli:=hl i (by omega)
   have hN':=hN (i+1)
   have hri1:=hr (i+1)
   generalize (imgI f ls i).map rowL=D at *
   unfold symR at *
   rw [hsi] at hN' hri1
   generalize S i=Si at *
   simp [hlt',a4,a2,a1,d4,d2,d1,hw]
   refine SC_pure hi1 ?_
   simp
   refine SC_pure hsm ?_
   cases hh:hasI f ls i with
   | true=>
    rw [hh] at hN' hri1
    simp only [if_true] at hN' hri1
    simp [hli,hw]
    exact hN' [(2,39)] _ _ (by omega) (by omega) (by simp +contextual [hrr,hri])
   | false=>
    rw [hh] at hN' hri1
    simp only [Bool.false_eq_true,if_false] at hN' hri1
    simp [hw]
    exact hN' [] _ _ (by omega) (by omega) (by simp +contextual [hrr,hri])
 · have hie:i=8:=by omega
   subst hie
   have hr8:=hr 8
   generalize S 8=S8 at *
   simp
   exact endK hKv [(1,2)] (by simp +contextual [hr8])
end Go.Known
