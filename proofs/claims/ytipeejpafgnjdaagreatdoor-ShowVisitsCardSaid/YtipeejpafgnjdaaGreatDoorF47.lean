/- Part 47 of the proof: Tv, Tw. -/
import Derived.Test.YtipeejpafgnjdaaGreatDoorF44
set_option linter.all false
section
namespace Go.Known
open Go Go.AE Go.Proofs
open Go.Plain
@[simp] theorem fzV_int (get : Nat → Option ABlk) (S : List Nat) (k : IntKind) (n : Int) : fzV get S (.int k n) = .int k n := rfl
theorem fzV_immG (get:Nat→Option ABlk) (S:List Nat) (fs:List Fg):fzV get S (.imm (fs.map rowG))=.imm (fs.map rowG):=fzV_closed (closed_rowG fs)
theorem fzV_immL (get:Nat→Option ABlk) (S:List Nat) (ls:List Lt):fzV get S (.imm (ls.map rowL))=.imm (ls.map rowL):=fzV_closed (closed_rows ls)
theorem fzV_cp {get:Nat→Option ABlk} {S:List Nat} {b k:Nat} {rows:List (List AVal)} (hc:closedLL rows=true) (hs:∀ row,row∈rows → ∀ x,x∈row→freezeV (onlyG get S) 4 x=some x) (hb:memN b S=true) (hg:get b=if rows=[] then none else some (.cells k rows)):fzV get S (cpV b rows)=.imm rows:=by
 unfold cpV
 by_cases h:rows=[]
 · rw [if_pos h,h]; rfl
 · rw [if_neg h]
   exact fzV_sl hb (by rw [hg,if_neg h]) rfl hs
theorem fzV_slN {get:Nat→Option ABlk} {S:List Nat} {b len:Nat} (hb:memN b S=false):fzV get S (.sl b 0 len)=.sl b 0 len:=by
 unfold fzV
 rw [freezeV]
 unfold onlyG
 rw [hb]
 rfl
theorem less_blS (k:Nat) (rows:List (List AVal)) (b:Nat) (rest:List (Nat×ABlk)) (ks:List Nat) (h:memN b ks=true):lessB ks (blV b k rows rest)=lessB ks rest:=by rw [less_blV,h]; rfl
theorem fzBk_st (get:Nat→Option ABlk) (S:List Nat) (fs:List Fg) (re lo f:Int) (ls:List Lt):fzBk get S (stB fs re lo f ls)=stB fs re lo f ls:=by
 unfold stB fzBk
 simp only [fzLL,List.map_cons,List.map_nil,fzV_immG,fzV_immL,fzV_int]
theorem fzW_cp (get:Nat→Option ABlk) (S:List Nat) (n b:Nat) (rows:List (List AVal)):fzW get S (n+1) (cpV b rows)=fzV get S (cpV b rows):=by
 unfold cpV
 split<;>rfl
theorem fzW_res (get:Nat→Option ABlk) (S:List Nat) (b c:Nat) (A B:List (List AVal)) (x y z:Int) :
 fzW get S 3 (.tuple [.agg [cpV b A,.int .i64 x,.int .i64 y],.agg [.int .i64 z,cpV c B]])=.tuple [.agg [fzV get S (cpV b A),.int .i64 x,.int .i64 y],.agg [.int .i64 z,fzV get S (cpV c B)]]:=by
 rw [← fzW_cp get S 0 b A,← fzW_cp get S 0 c B]
 rfl
theorem c51z (fs:List Fg) (re lo f:Int) (ls:List Lt) (hf:fs.length≤1000) (h:ls.length≤1000) :
 Ctr Tryz.prog 65 [.ptr 1 0 0] ⟨[(1,stB fs re lo f ls)],2⟩ fun r m=>r=.tuple [frV fs re lo,cV f ls]∧m=⟨[(1,stB fs re lo f ls)],4⟩:=by
 refine(c51 fs re lo f ls hf h).freezeB fun r sm=>?_
 rintro⟨rfl,rfl⟩
 refine⟨[2,3],?_,?_⟩
 · rw [fzW_res,fzV_cp (b:=2) (S:=[2,3]) (k:=3) (closed_rowG fs) (scal_rowG fs) rfl (by simp),fzV_cp (b:=3) (S:=[2,3]) (k:=6) (closed_rows ls) (scal_rows ls) rfl (by simp)]
   rfl
 · rw [less_blS _ _ _ _ _ rfl,less_blS _ _ _ _ _ rfl]
   simp [lessB,memN,fzBl,fzBk_st]
theorem c51f (fs:List Fg) (re lo f:Int) (ls:List Lt) (h0:fs≠[]) (hf:fs.length≤1000) (h:ls.length≤1000) :
 Ctr Tryz.prog 65 [.ptr 1 0 0] ⟨[(1,stB fs re lo f ls)],2⟩ fun r m=>r=.tuple [.agg [.sl 2 0 fs.length,.int .i64 re,.int .i64 lo],cV f ls]∧m=⟨[(2,.cells 3 (fs.map rowG)),(1,stB fs re lo f ls)],4⟩:=by
 refine(c51 fs re lo f ls hf h).freezeB fun r sm=>?_
 have h1:fs.map rowG≠[]:=by simpa using h0
 rintro⟨rfl,rfl⟩
 refine⟨[3],?_,?_⟩
 · rw [fzW_res,fzV_cp (b:=3) (S:=[3]) (k:=6) (closed_rows ls) (scal_rows ls) rfl (by simp),cpV,if_neg h1,fzV_slN rfl,List.length_map]
 · rw [blV_ne h1]
   have e1:fzLL (SMem.get ⟨(2,ABlk.cells 3 (fs.map rowG)) :: blV 3 6 (ls.map rowL) [(1,stB fs re lo f ls)],4⟩) [3] (fs.map rowG)=fs.map rowG:=fzLL_closed (closed_rowG fs)
   simp only [lessB,memN]
   rw [less_blS _ _ _ _ _ rfl]
   simp [lessB,memN,fzBl,fzBk_st]
   simp [fzBk]
   exact e1
end Go.Known
end
section
namespace Go.Known
open Go Go.AE Go.Proofs
open Go.Plain
def rowZ:List AVal:=[.int .i64 0,.bool false,.int .i64 0]
theorem closed_rowZ:∀ n,closedLL (List.replicate n rowZ)=true
 | 0=>rfl
 | n+1=>by
  have:=closed_rowZ n
  rw [List.replicate_succ]
  simp only [closedLL,rowZ,closedL,AVal.closed,Bool.and_true,Bool.true_and] at this ⊢
  exact this
noncomputable def lvE (p:Int) (fs:List Fg) (ls:List Lt):Int:=if hasP p fs=false then 8 else if smP p fs ls fs.length=0 then 0 else 5
set_option maxRecDepth 100000 in
set_option maxHeartbeats 16000000 in
theorem c52L (p:Int) (fs:List Fg) (re lo:Int) (ls:List Lt) (hf:fs.length≤1000) (h:ls.length≤1000) (he:handE fs re lo fs.length ls=0) :
 Ctr Tryz.prog 64 [.ptr 1 0 0,.int .i64 p] ⟨[(1,stB fs re lo fs.length ls)],2⟩ fun r m=>
  (lvE p fs ls≠0∧r=.int .i64 (lvE p fs ls)∧m=⟨[(1,stB fs re lo fs.length ls)],2⟩) ∨
  (lvE p fs ls=0∧r=.int .i64 0∧m=⟨[(2,.cells 3 ((lvF p fs fs.length).map rowG++List.replicate (fs.length - (lvF p fs fs.length).length) rowZ)),(1,.cells 5 [[.sl 2 0 (lvF p fs fs.length).length,.int .i64 re,.int .i64 lo,.int .i64 (lvD p fs fs.length ls fs.length).1,.imm ((lvD p fs fs.length ls fs.length).2.map rowL)]])],3⟩):=by
 obtain⟨hB,hE,_,hP⟩:=handE_zero he
 refine ctr_P hm Tryz.func64 cf52 rfl rfl fun K hK=>?_
 have hrr:∀ (x:List Lt) q,renLL q (x.map rowL)=x.map rowL:=fun x q=>renLL_closed q _ (closed_rows x)
 have hrG:∀ (x:List Fg) q,renLL q (x.map rowG)=x.map rowG:=fun x q=>renLL_closed q _ (closed_rowG x)
 have hrZ:∀ n q,renLL q (List.replicate n rowZ)=List.replicate n rowZ:=fun n q=>renLL_closed q _ (closed_rowZ n)
 have hlen:(fs.map rowG).length=fs.length:=List.length_map ..
 have h84:=c84 p fs hf
 have h90:=c90 p fs re lo ls hf h he
 have hNo:∀ e:Int,lvE p fs ls=e→e≠0→K (.int .i64 e) ⟨[(1,stB fs re lo fs.length ls)],2⟩:=fun e h1 h2=>hK _ _ (.inl ⟨by rw [h1]; exact h2,by rw [h1],rfl⟩)
 have hYes:=fun h1=>hK _ _ (.inr ⟨h1,rfl,rfl⟩)
 clear hK
 unfold pM at h84
 have hrs:=hrr ls
 have hrf:=hrG fs
 unfold stB at *
 simp
 refine SC_ctr h84 [(1,2)] (by simp [hrf]) (by simp) (by simp) ?_
 rintro r sm ⟨rfl,rfl⟩
 cases hh:hasP p fs with
 | false=>
  simp
  exact endK (hNo 8 (by unfold lvE; rw [if_pos hh]) (by decide)) [] (by simp [hrf,hrs])
 | true=>
  simp
  refine SC_ctr h90 [] (by simp) (by simp [hrf,hrs]) (by simp) ?_
  rintro r sm ⟨rfl,rfl⟩
  by_cases hs:smP p fs ls fs.length=0
  · have h0:fs≠[]:=fun e=>by subst e; simp [hasP] at hh
    have h51:=c51f fs re lo fs.length ls h0 hf h
    unfold stB cV at h51
    simp [hs,hrf,hrs]
    refine SC_ctr h51 [] (by simp) (by simp [hrf,hrs]) (by simp) ?_
    rintro r sm ⟨rfl,rfl⟩
    simp [hrf,hrs]
    have hYes':=hYes (by unfold lvE; rw [if_neg (by simp [hh]),if_pos hs])
    clear hYes hNo h84 h90 h51
    obtain⟨n,hn⟩:∃ n:Nat→Nat,∀ d,(lvF p fs d).length=n d:=⟨_,fun _=>rfl⟩
    obtain⟨A,hA⟩:∃ A:Nat→List (List AVal),∀ d,(lvF p fs d).map rowG=A d:=⟨_,fun _=>rfl⟩
    obtain⟨Z,hZ⟩:∃ Z:Nat→List (List AVal),∀ d,List.replicate (fs.length - (lvF p fs d).length) rowZ=Z d:=⟨_,fun _=>rfl⟩
    obtain⟨g,hg⟩:∃ g:Nat→Int,∀ d,(lvD p fs fs.length ls d).1=g d:=⟨_,fun _=>rfl⟩
    obtain⟨C,hC⟩:∃ C:Nat→List (List AVal),∀ d,(lvD p fs fs.length ls d).2.map rowL=C d:=⟨_,fun _=>rfl⟩
    have hrA:∀ d q,renLL q (A d)=A d:=fun d q=>by rw [← hA]; exact hrG _ q
    have hrZ':∀ d q,renLL q (Z d)=Z d:=fun d q=>by rw [← hZ]; exact hrZ _ q
    have hrC:∀ d q,renLL q (C d)=C d:=fun d q=>by rw [← hC]; exact hrr _ q
    have hcA:∀ d,closedLL (A d)=true:=fun d=>by rw [← hA]; exact closed_rowG _
    have hcZ:∀ d,closedLL (Z d)=true:=fun d=>by rw [← hZ]; exact closed_rowZ _
    have hnA:∀ d,(A d).length=n d:=fun d=>by rw [← hA,← hn,List.length_map]
    have hn0:n 0=fs.length:=by rw [← hn,lvF_zero]
    have hA0:A 0=fs.map rowG:=by rw [← hA,lvF_zero]
    have hZ0:Z 0=[]:=by rw [← hZ,lvF_zero,Nat.sub_self]; rfl
    have hg0:g 0=fs.length:=by rw [← hg]; rfl
    have hC0:C 0=ls.map rowL:=by rw [← hC]; rfl
    have hle:∀ d,n d≤fs.length:=fun d=>by rw [← hn]; exact lvF_length_le
    have hge:∀ d,fs.length - d≤n d:=fun d=>by rw [← hn]; exact lvF_length_ge
    have hAj:∀ d j,j+(d+1)=fs.length→(A d)[j]? = some (rowG (fgAt fs j)):=fun d j hj=>by rw [← hA,List.getElem?_map,lvF_get hj]; rfl
    have hok:=fun d hd=>lvD_ok (p:=p) hE d hd
    have hgo:∀ d j,j+(d+1)=fs.length→(fgAt fs j).p=p→A (d+1)=(A d).take j++(A d).drop (j+1)∧n (d+1)=n d - 1∧Z (d+1)=rowZ :: Z d∧g (d+1)=g d - 1 ∧
     PCall Tryz.prog 113 [.agg [.int .i64 (g d),.imm (C d)],.int .i64 ((j:Int)+1)] (.tuple [.agg [.int .i64 (g d - 1),.imm (C (d+1))],.int .i64 0]):=fun d j hj hpj=>by
     obtain⟨k1,k2,k3⟩:=hok d (by omega)
     have e1:fs.length - (d+1)=j:=by omega
     have hgd:=hge d
     have hld:=hle d
     have hF:=lvF_go hj hpj
     have hnn:n (d+1)=n d - 1:=by
      rw [← hn,← hn,hF,List.length_append,List.length_take,List.length_drop,hn]
      omega
     have hD:lvD p fs fs.length ls (d+1)=((lvD p fs fs.length ls d).1 - 1,foN ((j:Int)+1) (lvD p fs fs.length ls d).2):=by
      simp only [lvD,e1]
      rw [if_pos hpj]
     refine⟨?_,hnn,?_,?_,?_⟩
     · rw [← hA,← hA,hF,List.map_append,List.map_take,List.map_drop]
     · rw [← hZ,← hZ,hn,hn,hnn,← List.replicate_succ]
       congr 1
       omega
     · rw [← hg,← hg,hD]
     · have:=cForgetA (lvD p fs fs.length ls d).1 ((j:Int)+1) (lvD p fs fs.length ls d).2 k1 (by omega) (by rw [k2,hn]; omega)
       unfold cV at this
       rw [← hg,← hC,← hC,hD]
       exact this
    have hst:∀ d j,j+(d+1)=fs.length → ¬(fgAt fs j).p=p→A (d+1)=A d∧n (d+1)=n d∧Z (d+1)=Z d∧g (d+1)=g d∧C (d+1)=C d:=fun d j hj hpj=>by
     have e1:fs.length - (d+1)=j:=by omega
     have hF:=lvF_stay hj hpj
     have hD:lvD p fs fs.length ls (d+1)=lvD p fs fs.length ls d:=by
      simp only [lvD,e1]
      rw [if_neg hpj]
     exact⟨by rw [← hA,← hA,hF],by rw [← hn,← hn,hF],by rw [← hZ,← hZ,hF],by rw [← hg,← hg,hD],by rw [← hC,← hC,hD]⟩
    have hgr:∀ d,d≤fs.length→0≤g d∧g d≤1000:=fun d hd=>by
     obtain⟨k1,k2,k3⟩:=hok d hd
     have:=hle d
     rw [← hg,k2,hn]
     omega
    clear hok
    simp only [hZ] at hYes'
    simp only [hn,hA,hg,hC] at hYes'
    rw [← hA0,← hC0] at *
    clear hrG hrr hrZ
    have hw0:IntKind.i64.wrap ((fs.length:Int) - 1)=(fs.length:Int) - 1:=wrap64 (by omega) (by omega)
    rw [hw0]
    refine wZ_loop (α:=Nat) (fun d=>[(7,.int .i64 ((fs.length:Int) - ((d:Int)+1))),(6,.ptr 4 0 0),(5,.ptr 3 0 0),(3,.ptr 2 0 0),(0,.ptr 1 0 0)])
     (fun d=>⟨[(3,.cells 3 [[.sl 5 0 (n d),.int .i64 re,.int .i64 lo]]),(4,.cells 2 [[.int .i64 (g d),.imm (C d)]]),(5,.cells 3 (A d++Z d)),(2,.cells 1 [[.int .i64 p]]),(1,.cells 5 [[.imm (A 0),.int .i64 re,.int .i64 lo,.int .i64 fs.length,.imm (C 0)]])],6⟩)
     (fun d=>fs.length - d) (fun d=>d≤fs.length) 0 [(2,2),(3,21),(4,22),(5,25)] (by simp [hrA,hrC,hn0,hZ0,hg0]) (by simp) ?_
    intro d hd N hN
    try simp only at hd hN ⊢
    by_cases hlt:d<fs.length
    · obtain⟨j,hj⟩:∃ j,j+(d+1)=fs.length:=⟨fs.length - (d+1),by omega⟩
      have hji:(fs.length:Int) - ((d:Int)+1)=(j:Int):=by omega
      have hji2:IntKind.i64.wrap ((j:Int) - 1)=(fs.length:Int) - ((d:Int)+1+1):=by rw [wrap64 (by omega) (by omega)]; omega
      have hj1:IntKind.i64.wrap ((j:Int)+1)=(j:Int)+1:=wrap64 (by omega) (by omega)
      have hgd:=hge d
      have hjn:j<n d:=by omega
      have hAd:=hnA d
      have hgj:(A d++Z d)[j]? = some (rowG (fgAt fs j)):=by rw [List.getElem?_append_left (by omega)]; exact hAj d j hj
      obtain⟨hgl,hg2⟩:=getE hgj
      have hrAd:=hrA d
      have hrZd:=hrZ' d
      have hrCd:=hrC d
      have hrC1:=hrC (d+1)
      have hrA0:=hrA 0
      have hrC0:=hrC 0
      have hN':=hN (d+1)
      rw [Int.natCast_add,Int.natCast_one] at hN'
      rw [hji]
      by_cases hpj:(fgAt fs j).p=p
      · obtain⟨k1,k2,k3,k4,k5⟩:=hgo d j hj hpj
        have hDel:=cDelF (A d) (Z d) j (by omega) (by rw [hAd]; have:=hle d; omega) (hcA d) (hcZ d)
        rw [hAd] at hDel
        rw [k1,k2,k3,k4] at hN'
        simp [hgj,hg2,hjn,rowG,hpj,hj1]
        refine SC_pure k5 ?_
        simp [hj1]
        refine SC_ctr hDel [(1,5)] (by simp) (by simp [hrAd,hrZd]) (by simp) ?_
        rintro r sm ⟨rfl,rfl⟩
        have hrT:∀ q,renLL q ((A d).take j)=(A d).take j:=fun q=>by rw [renLL_map,List.map_take,← renLL_map,hrAd]
        have hrD:∀ q,renLL q ((A d).drop (j+1))=(A d).drop (j+1):=fun q=>by rw [renLL_map,List.map_drop,← renLL_map,hrAd]
        unfold rowZ at hN'
        simp [hji2]
        exact hN' [] _ _ (by omega) (by omega) (by simp [hrT,hrD,hrZd,hrCd,hrC1,hrA0,hrC0])
      · obtain⟨k1,k2,k3,k4,k5⟩:=hst d j hj hpj
        rw [k1,k2,k3,k4,k5] at hN'
        simp [hgj,hg2,hjn,rowG,hpj,hji2]
        exact hN' [] _ _ (by omega) (by omega) (by simp [hrAd,hrZd,hrCd,hrA0,hrC0])
    · have hie:d=fs.length:=by omega
      subst hie
      have hneg:(fs.length:Int) - ((fs.length:Int)+1) = -1:=by omega
      rw [hneg]
      simp
      exact endK hYes' [(2,5)] (by simp [hrA,hrZ',hrC])
  · have hpos:0<smP p fs ls fs.length:=Nat.pos_of_ne_zero hs
    simp [hpos]
    exact endK (hNo 5 (by unfold lvE; rw [if_neg (by simp [hh]),if_neg hs]) (by decide)) [] (by simp [hrf,hrs])
end Go.Known
end
