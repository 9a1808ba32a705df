/- Part 48 of the proof: Tx, Ty. -/
import Derived.Test.YtipeejpafgnjdaaGreatDoorD47
set_option linter.all false
section
namespace Go.Known
open Go Go.AE Go.Proofs
open Go.Plain
theorem fzV_slT {get:Nat→Option ABlk} {S:List Nat} {b k len:Nat} {els:List (List AVal)} (hb:memN b S=true) (hg:get b=some (.cells k els)) (hl:len≤els.length) (hs:∀ row,row∈els.take len → ∀ x,x∈row→freezeV (onlyG get S) 4 x=some x):fzV get S (.sl b 0 len)=.imm (els.take len):=by
 have h:onlyG get S b=some (.cells k els):=by unfold onlyG; rw [hb]; exact hg
 have h1:Nat.ble (0+len) els.length=true:=by rw [Nat.zero_add]; exact Nat.ble_eq_true_of_le hl
 unfold fzV
 rw [freezeV]
 simp only [h,h1,cond_true,List.drop_zero,mapO_closed hs]
def lvC (p:Int) (fs:List Fg) (ls:List Lt):Int×List Lt:=lvD p fs fs.length ls fs.length
theorem c52Lf (p:Int) (fs:List Fg) (re lo:Int) (ls:List Lt) (hf:fs.length≤1000) (h:ls.length≤1000) (he:handE fs re lo fs.length ls=0) :
 Ctr Tryz.prog 64 [.ptr 1 0 0,.int .i64 p] ⟨[(1,stB fs re lo fs.length ls)],2⟩ fun r m=>
  (lvE p fs ls≠0∧r=.int .i64 (lvE p fs ls)∧m=⟨[(1,stB fs re lo fs.length ls)],2⟩) ∨
  (lvE p fs ls=0∧r=.int .i64 0∧m=⟨[(1,stB (stayF p fs) re lo (lvC p fs ls).1 (lvC p fs ls).2)],3⟩):=by
 refine(c52L p fs re lo ls hf h he).freezeB fun r sm=>?_
 rintro(⟨h1,rfl,rfl⟩ | ⟨h1,rfl,rfl⟩)
 · refine⟨[],.inl ⟨h1,rfl,?_⟩⟩
   simp [lessB,memN,fzBl,fzBk_st]
 · refine⟨[2],.inr ⟨h1,rfl,?_⟩⟩
   have e1:((lvF p fs fs.length).map rowG++List.replicate (fs.length - (lvF p fs fs.length).length) rowZ).take (lvF p fs fs.length).length=(lvF p fs fs.length).map rowG:=by
    rw [List.take_append_of_le_length (by simp),List.take_of_length_le (by simp)]
   have e2:=fzV_slT (S:=[2]) (b:=2) (k:=3) (len:=(lvF p fs fs.length).length) (els:=(lvF p fs fs.length).map rowG++List.replicate (fs.length - (lvF p fs fs.length).length) rowZ)
    (get:=SMem.get ⟨[(2,.cells 3 ((lvF p fs fs.length).map rowG++List.replicate (fs.length - (lvF p fs fs.length).length) rowZ)),(1,.cells 5 [[.sl 2 0 (lvF p fs fs.length).length,.int .i64 re,.int .i64 lo,.int .i64 (lvD p fs fs.length ls fs.length).1,.imm ((lvD p fs fs.length ls fs.length).2.map rowL)]])],3⟩)
    rfl rfl (by simp) (by rw [e1]; exact scal_rowG _)
   rw [e1] at e2
   have e3:∀ x y:ABlk,lessB [2] [(2,x),(1,y)]=[(1,y)]:=fun x y=>by simp [lessB,memN]
   rw [e3]
   simp only [fzBl,fzBk,fzLL,List.map_cons,List.map_nil,fzV_int,fzV_immL,e2]
   rw [← lvF_all]
   rfl
theorem fz_fr (get:Nat→Option ABlk) (fs:List Fg) (re lo f e:Int) (ls:List Lt):freezeV get 5 (.tuple [frV fs re lo,cV f ls,.int .i64 e])=some (.tuple [frV fs re lo,cV f ls,.int .i64 e]):=by
 have h1:=freeze_imm (get:=get) (n:=2) (scal_rowG (get:=get) (n:=1) fs)
 have h2:=freeze_imm (get:=get) (n:=2) (scal_rows (get:=get) (n:=1) ls)
 unfold frV cV
 rw [freezeV]
 simp only [mapO]
 rw [freezeV]
 simp only [mapO]
 rw [h1,freezeV]
 simp only [mapO]
 rw [h2]
 rfl
noncomputable def lvT (p:Int) (fs:List Fg) (re lo f:Int) (ls:List Lt):AVal:=
 if handE fs re lo f ls≠0 then .tuple [.agg [.nilSl,.int .i64 0,.int .i64 0],.agg [.int .i64 0,.nilSl],.int .i64 (handE fs re lo f ls)]
 else if lvE p fs ls≠0 then .tuple [.agg [.nilSl,.int .i64 0,.int .i64 0],.agg [.int .i64 0,.nilSl],.int .i64 (lvE p fs ls)]
 else .tuple [frV (stayF p fs) re lo,cV (lvC p fs ls).1 (lvC p fs ls).2,.int .i64 0]
theorem closed_lvT (p:Int) (fs:List Fg) (re lo f:Int) (ls:List Lt):(lvT p fs re lo f ls).closed=true:=by
 unfold lvT
 split
 · rfl
 · split
   · rfl
   · simp [AVal.closed,closedL,frV,closed_rowG,closed_rows]
set_option maxRecDepth 100000 in
set_option maxHeartbeats 8000000 in
theorem c25 (p:Int) (fs:List Fg) (re lo f:Int) (ls:List Lt) (hf:fs.length≤1000) (h:ls.length≤1000):PCall Tryz.prog 24 [frV fs re lo,cV f ls,.int .i64 p] (lvT p fs re lo f ls):=by
 refine PCall_F hm 5 Tryz.func24 cf25 rfl rfl (by simp [closedL,AVal.closed,closed_rowG,closed_rows,frV]) (closed_lvT _ _ _ _ _ _) fun K hK=>?_
 have hrs:∀ (x:List Lt) q,renLL q (x.map rowL)=x.map rowL:=fun x q=>renLL_closed q _ (closed_rows x)
 have hrf:∀ (x:List Fg) q,renLL q (x.map rowG)=x.map rowG:=fun x q=>renLL_closed q _ (closed_rowG x)
 have h49:=c49 fs re lo f ls hf h
 have hS:(stayF p fs).length≤1000:=by unfold stayF; have:=List.length_filter_le (fun x:Fg=>!decide (x.p=p)) fs; omega
 unfold lvT at hK
 have hrs1:=hrs ls
 have hrf1:=hrf fs
 by_cases hE:handE fs re lo f ls=0
 · rw [if_neg (by simp [hE])] at hK
   obtain⟨_,hE',hF,_⟩:=handE_zero hE
   subst hF
   have h52:=c52Lf p fs re lo ls hf h hE
   have hL:(lvC p fs ls).2.length≤1000:=by have:=(lvD_ok (p:=p) hE' fs.length (Nat.le_refl _)).2.2; unfold lvC; omega
   by_cases hl:lvE p fs ls=0
   · rw [if_neg (by simp [hl])] at hK
     have hKv:=hK _ ⟨[],1⟩ (fz_fr _ (stayF p fs) re lo (lvC p fs ls).1 0 (lvC p fs ls).2)
     have h51:=c51z (stayF p fs) re lo (lvC p fs ls).1 (lvC p fs ls).2 hS hL
     have hrs2:=hrs (lvC p fs ls).2
     have hrf2:=hrf (stayF p fs)
     clear hK
     unfold stB frV cV at *
     simp
     refine SC_ctr h49 [] (by simp [hrs1,hrf1]) (by simp) (by simp) ?_
     rintro r sm (⟨h1,_⟩ | ⟨_,rfl,rfl⟩)
     · exact absurd hE h1
     simp [hrs1,hrf1]
     refine SC_ctr h52 [(1,14)] (by simp) (by simp [hrs1,hrf1]) (by simp) ?_
     rintro r sm (⟨h1,_⟩ | ⟨_,rfl,rfl⟩)
     · exact absurd hl h1
     simp [hrs2,hrf2]
     refine SC_ctr h51 [(1,14)] (by simp) (by simp [hrs2,hrf2]) (by simp) ?_
     rintro r sm ⟨rfl,rfl⟩
     simp [hrs2,hrf2]
     exact endK hKv [] (by simp [hrs2,hrf2])
   · rw [if_pos (by simpa using hl)] at hK
     have hKv:=hK (.tuple [.agg [.nilSl,.int .i64 0,.int .i64 0],.agg [.int .i64 0,.nilSl],.int .i64 (lvE p fs ls)]) ⟨[],1⟩ rfl
     clear hK
     unfold stB frV cV at *
     simp
     refine SC_ctr h49 [] (by simp [hrs1,hrf1]) (by simp) (by simp) ?_
     rintro r sm (⟨h1,_⟩ | ⟨_,rfl,rfl⟩)
     · exact absurd hE h1
     simp [hrs1,hrf1]
     refine SC_ctr h52 [(1,14)] (by simp) (by simp [hrs1,hrf1]) (by simp) ?_
     rintro r sm (⟨_,rfl,rfl⟩ | ⟨h1,_⟩)
     · simp [hl]
       exact endK hKv [] (by simp)
     · exact absurd h1 hl
 · rw [if_pos (by simpa using hE)] at hK
   have hKv:=hK (.tuple [.agg [.nilSl,.int .i64 0,.int .i64 0],.agg [.int .i64 0,.nilSl],.int .i64 (handE fs re lo f ls)]) ⟨[],1⟩ rfl
   clear hK
   unfold frV cV at *
   simp
   refine SC_ctr h49 [] (by simp [hrs1,hrf1]) (by simp) (by simp) ?_
   rintro r sm (⟨_,rfl,rfl⟩ | ⟨h1,_⟩)
   · simp [hE]
     exact endK hKv [] (by simp)
   · exact absurd h1 hE
end Go.Known
end
section
namespace Go.Known
open Go Go.AE Go.Proofs
open Go.Plain
structure Ow where
 f:Int
 n:Int
 l:Nat
 r:Nat
def orow (x:Ow):List AVal:=[.int .i64 x.f,.int .i64 x.n,.int .i64 x.l,.int .i64 x.r]
theorem closed_orow:∀ (l:List Ow),closedLL (l.map orow)=true
 | []=>rfl
 | p :: r=>by
  have:=closed_orow r
  simp only [List.map_cons,closedLL,orow,closedL,AVal.closed,Bool.and_true,Bool.true_and] at this ⊢
  exact this
theorem orow_get {l:List Ow} {i:Nat} {x:Ow} (h:l[i]? = some x):(l.map orow)[i]? = some (orow x):=by rw [List.getElem?_map,h]; rfl
def fgs (ls:List Lt):Nat→List Int
 | 0=>[]
 | i+1=>fgs ls i++List.replicate (cnL ls ((i:Int)+1)) ((i:Int)+1)
theorem fgs_le {ls:List Lt} (h:ls.length≤1000):∀ i,(fgs ls i).length≤i*1000
 | 0=>Nat.le_refl _
 | i+1=>by
  have h1:=fgs_le h i
  have h2:=cnL_le (ls:=ls) (f:=(i:Int)+1)
  rw [fgs,List.length_append,List.length_replicate,Nat.succ_mul]
  exact Nat.add_le_add h1 (Nat.le_trans h2 h)
def OwnI (ls:List Lt) (f:Int) (i:Nat) (own:List Ow):Prop:=i≤ls.length∧own.length=(lpL ls f i).length ∧ ∀ x,x∈own→x.f=f∧x.l<ls.length
theorem lp_cases {ls:List Lt} {f:Int} {i y:Nat} (hy:(i+1) % ls.length=y) (hP:PosI ls i) (hk:(at' ls i).k=1) (hd:down ls i=true) :
 (isLp ls f i=true∧(((at' ls i).g=f∧(at' ls y).g=f - 1∧lpA ls f i=(y,i))∨((at' ls i).g=f - 1∧(at' ls y).g=f∧lpA ls f i=(i,y)))) ∨
 (isLp ls f i=false∧((at' ls i).g=f → ¬(at' ls y).g=f - 1)∧((at' ls i).g=f - 1 → ¬(at' ls y).g=f)):=by
 have hnx:nxL ls i=at' ls y:=by unfold nxL; rw [hy]
 have h1:=hP hk hd
 rw [hnx] at h1
 have hm:mxg ls i=if (at' ls i).g<(at' ls y).g then (at' ls y).g else (at' ls i).g:=by unfold mxg; rw [hnx]
 by_cases h:mxg ls i=f
 · refine .inl ⟨by unfold isLp; simp [hk,hd,h],?_⟩
   rw [hm] at h
   by_cases h2:(at' ls i).g<(at' ls y).g
   · rw [if_pos h2] at h
     refine .inr ⟨by omega,h,?_⟩
     unfold lpA
     rw [if_neg (by omega),hy]
   · rw [if_neg h2] at h
     refine .inl ⟨h,by omega,?_⟩
     unfold lpA
     rw [if_pos h,hy]
 · refine .inr ⟨by unfold isLp; simp [h],?_,?_⟩
   · intro h2 h3
     apply h
     rw [hm,if_neg (by omega)]
     exact h2
   · intro h2 h3
     apply h
     rw [hm,if_pos (by omega)]
     exact h3
set_option maxRecDepth 100000 in
set_option maxHeartbeats 16000000 in
theorem cROf (F:Nat) (ls:List Lt) (hF:F≤1000) (h:ls.length≤1000) (hP:PosP ls) (hq:∀ l,l∈ls→l.k=1→0≤l.g∧l.g≤40) :
 Ctr Tryz.prog 116 [cV F ls] ⟨[],1⟩ fun r m=>∃ O:List Ow,O.map (·.f)=fgs ls F∧r=slV 1 (O.map orow)∧m=⟨blV 1 4 (O.map orow) [],2⟩:=by
 refine ctr_P hm Tryz.func116 cjROf rfl rfl fun K hK=>?_
 have hrr:∀ q,renLL q (ls.map rowL)=ls.map rowL:=fun q=>renLL_closed q _ (closed_rows ls)
 have hrO:∀ (O:List Ow) q,renLL q (O.map orow)=O.map orow:=fun O q=>renLL_closed q _ (closed_orow O)
 have hlen:(ls.map rowL).length=ls.length:=List.length_map ..
 have hg:=fun i hi=>get_row ls (i:=i) hi
 have hdn:=fun i hi=>cRdown F ls i hi h
 have hwr:=fun i h0 hi=>cRwrap F ls i h0 h hi
 unfold cV at *
 generalize ls.map rowL=rows at *
 simp
 refine wZ_loop (α:=Nat×List Ow) (fun a=>[(4,.int .i64 ((a.1:Int)+1)),(3,slV 2 (a.2.map orow)),(1,.ptr 1 0 0)])
  (fun a=>⟨(1,.cells 2 [[.int .i64 F,.imm rows]]) :: blV 2 4 (a.2.map orow) [],3⟩) (fun a=>F - a.1) (fun a=>a.1≤F∧a.2.map (·.f)=fgs ls a.1) (0,[]) [] (by simp [hrr]) (by simp [fgs]) ?_
 rintro⟨i,O⟩ ⟨hi,hO⟩ N hN
 simp only at hi hO
 try simp only
 have hrOO:=hrO O
 by_cases hlt:i<F
 · have hc0:(i:Int)+1≤(F:Int):=by omega
   have hgt:¬(F:Int)<(i:Int)+1:=by omega
   have hw1:IntKind.i64.wrap ((i:Int)+1+1)=(i:Int)+1+1:=wrap64 (by omega) (by omega)
   have hw0:IntKind.i64.wrap (i:Int)=(i:Int):=wrap64 (by omega) (by omega)
   simp [hc0,hgt,hw1]
   refine wZ_loop (α:=Nat×List Ow) (fun a=>[(6,.int .i64 a.1),(5,slV 3 (a.2.map orow)),(4,.int .i64 ((i:Int)+1)),(3,slV 2 (O.map orow)),(1,.ptr 1 0 0)])
    (fun a=>⟨(1,.cells 2 [[.int .i64 F,.imm rows]]) :: blV 2 4 (O.map orow) (blV 3 4 (a.2.map orow) []),4⟩) (fun a=>ls.length - a.1) (fun a=>OwnI ls ((i:Int)+1) a.1 a.2) (0,[]) [] (by simp +contextual [hrr,hrOO]) ⟨by simp,by simp [lpL_zero],by simp⟩ ?_
   rintro⟨k,own⟩ ⟨hk0,hk1,hk2⟩ N' hN'
   simp only at hk0 hk1 hk2
   try simp only
   have hrw:=hrO own
   by_cases hkl:k<ls.length
   · have hwk:IntKind.i64.wrap ((k:Int)+1)=(k:Int)+1:=wrap64 (by omega) (by omega)
     have hgk:=hg k hkl
     obtain⟨hgkl,hgk2⟩:=getE hgk
     have h0:ls≠[]:=fun e=>by subst e; simp at hkl
     have hd:=hdn k hkl
     have hw:=hwr (k+1) h0 (by omega)
     rw [Int.natCast_add] at hw
     obtain⟨y,hy⟩:∃ y:Nat,(k+1) % ls.length=y:=⟨_,rfl⟩
     rw [hy] at hw
     have hyl:y<ls.length:=by rw [← hy]; exact Nat.mod_lt _ (by omega)
     have hgy:=hg y hyl
     obtain⟨hgyl,hgy2⟩:=getE hgy
     have hN2:=hN' (k+1,own)
     have hls:=lpL_succ (ls:=ls) (f:=(i:Int)+1) (n:=k)
     have stay:isLp ls ((i:Int)+1) k=false→OwnI ls ((i:Int)+1) (k+1) own:=fun e=>⟨by omega,by rw [hls,if_neg (by simp [e]),hk1],hk2⟩
     by_cases hkd:(at' ls k).k=1∧down ls k=true
     · obtain⟨hkk,hdt⟩:=hkd
       rw [decide_eq_true hkk,hdt,Bool.true_and] at hd
       simp [hlen,hkl,hwk]
       refine SC_pure hd ?_
       simp [hwk]
       refine SC_pure hw ?_
       rcases lp_cases (f:=(i:Int)+1) hy (hP k hkl) hkk hdt with⟨hlp,hAC⟩ | ⟨hlp,hn1,hn2⟩
       · obtain⟨L,R,hLR,hL,hAC'⟩:∃ L R:Nat,lpA ls ((i:Int)+1) k=(L,R)∧L<ls.length∧(((at' ls k).g=(i:Int)+1∧(at' ls y).g=(i:Int)∧L=y∧R=k)∨((at' ls k).g=(i:Int)∧(at' ls y).g=(i:Int)+1∧L=k∧R=y)):=by
          rcases hAC with⟨q1,q2,q3⟩ | ⟨q1,q2,q3⟩
          · exact⟨y,k,q3,hyl,.inl ⟨q1,by omega,rfl,rfl⟩⟩
          · exact⟨k,y,q3,hkl,.inr ⟨by omega,q2,rfl,rfl⟩⟩
         have hgL:=hg L hL
         obtain⟨hgLl,hgL2⟩:=getE hgL
         have hins:∀ j,j≤own.length→OwnI ls ((i:Int)+1) (k+1) (own.take j++⟨(i:Int)+1,0,L,R⟩ :: own.drop j):=fun j hj=>by
          refine⟨by omega,?_,fun x hx=>?_⟩
          · rw [hls,if_pos hlp,List.length_append,List.length_append,List.length_take,List.length_cons,List.length_drop,← hk1,List.length_singleton]
            omega
          · rw [List.mem_append,List.mem_cons] at hx
            rcases hx with hx | rfl | hx
            · exact hk2 x (List.mem_of_mem_take hx)
            · exact⟨rfl,hL⟩
            · exact hk2 x (List.mem_of_mem_drop hx)
         have hN3:=fun j=>hN' (k+1,own.take j++⟨(i:Int)+1,0,L,R⟩ :: own.drop j)
         have hol:own.length≤1000:=by have:=lpL_le (ls:=ls) (f:=(i:Int)+1) (n:=k); omega
         clear hN2 stay
         have e3:¬(i:Int)+1=(i:Int):=by omega
         have e3':¬(i:Int)=(i:Int)+1:=by omega
         rcases hAC' with⟨q1,q2,q3,q4⟩ | ⟨q1,q2,q3,q4⟩
         all_goals
          unfold rowL at *
          simp [hlen,hkl,hyl,hgk,hgk2,hgy,hgy2,hw0,q1,q2,e3,e3',hwk,FT.indep]
          refine wZ_loop (α:=Nat) (fun j=>[(11,.int .i64 j),(10,.ptr 6 0 0),(6,.int .i64 k),(5,slV 3 (own.map orow)),(4,.int .i64 ((i:Int)+1)),(3,slV 2 (O.map orow)),(1,.ptr 1 0 0)])
           (fun j=>⟨(6,.cells 4 [[.int .i64 ((i:Int)+1),.int .i64 0,.int .i64 L,.int .i64 R]]) :: (1,.cells 2 [[.int .i64 F,.imm rows]]) :: blV 2 4 (O.map orow) (blV 3 4 (own.map orow) []),7⟩)
           (fun j=>own.length - j) (fun j=>j≤own.length) 0 [(6,36)] (by simp +contextual [hrr,hrOO,hrw,q3,q4]) (by simp) ?_
          intro j hj M hM
          try simp only at hj hM ⊢
          have hown:(own.take j++(⟨(i:Int)+1,0,L,R⟩:Ow) :: own.drop j).map orow=(own.map orow).take j++[AVal.int .i64 ((i:Int)+1),.int .i64 0,.int .i64 L,.int .i64 R] :: (own.map orow).drop j:=by
           simp [orow,List.map_take,List.map_drop]
          have hownl:((own.take j++(⟨(i:Int)+1,0,L,R⟩:Ow) :: own.drop j).map orow).length=own.length+1:=by simp; omega
          have hN4:=hN3 j
          simp only at hN4
          have hnew:(own.take j++(⟨(i:Int)+1,0,L,R⟩:Ow) :: own.drop j).map orow≠[]:=by simp
          have hV3:slV 3 ((own.take j++(⟨(i:Int)+1,0,L,R⟩:Ow) :: own.drop j).map orow)=.sl 3 0 (own.length+1):=by rw [slV_ne hnew,hownl]
          have hB3:blV 3 4 ((own.take j++(⟨(i:Int)+1,0,L,R⟩:Ow) :: own.drop j).map orow) []=[(3,.cells 4 ((own.map orow).take j++[AVal.int .i64 ((i:Int)+1),.int .i64 0,.int .i64 L,.int .i64 R] :: (own.map orow).drop j))]:=by rw [blV_ne hnew,hown]
          rw [hV3,hB3] at hN4
          have hinj:=hins j hj
          have hmin:min j own.length=j:=Nat.min_eq_left hj
          have hsum:j+1+(own.length - j)=own.length+1:=by omega
          have hrT:∀ q,renLL q ((own.map orow).take j)=(own.map orow).take j:=fun q=>by rw [renLL_map,List.map_take,← renLL_map,hrw]
          have hrD:∀ q,renLL q ((own.map orow).drop j)=(own.map orow).drop j:=fun q=>by rw [renLL_map,List.map_drop,← renLL_map,hrw]
          clear hN3 hins
          by_cases hjl:j<own.length
          · obtain⟨x,hx⟩:∃ x,own[j]? = some x:=⟨own[j],List.getElem?_eq_getElem hjl⟩
            have hxm:=hk2 x (List.mem_of_getElem? hx)
            have hno:¬own=[]:=fun e=>by subst e; simp at hjl
            obtain⟨hxl,hxe⟩:=getE hx
            have hgx:=hg x.l hxm.2
            unfold rowL at hgx
            obtain⟨hgxl,hgx2⟩:=getE hgx
            have hwj:IntKind.i64.wrap ((j:Int)+1)=(j:Int)+1:=wrap64 (by omega) (by omega)
            by_cases hr:(at' ls x.l).r<(at' ls L).r
            · simp [hno,hx,hxe,orow,hjl,hlen,hxm.2,hgx,hgx2,hL,hgL,hgL2,hr,hwj]
              exact hM (j+1) [] _ _ (by omega) (by omega) (by simp +contextual [hrr,hrOO,hrw])
            · have e1:slV 3 (own.map orow)=.sl 3 0 own.length:=by rw [slV_ne (by simpa using hno),List.length_map]
              have e2:blV 3 4 (own.map orow) []=[(3,.cells 4 (own.map orow))]:=blV_ne (by simpa using hno)
              have hdn0:¬own.length≤j:=by omega
              have hjle:j≤own.length:=hj
              have a1:¬1+own.length≤1:=by omega
              have a2:1+own.length≤1048576:=by omega
              have a3:(own.map orow).take own.length=own.map orow:=List.take_of_length_le (by simp)
              have a4:j≤1048576:=by omega
              have a5:j+1≤1048576:=by omega
              have a6:¬j+1+(own.length - j)≤j+1:=by omega
              have a7:j+1+(own.length - j)≤1048576:=by omega
              have a8:¬j+1≤j:=by omega
              have a9:((own.map orow).drop j).take (own.length - j)=(own.map orow).drop j:=List.take_of_length_le (by simp)
              have b1:1+own.length=own.length+1:=by omega
              have b2:own.length≤1048575:=by omega
              have b3:j≤1048575:=by omega
              have b4:j+(own.length - j)≤own.length:=by omega
              have b5:((own.map orow).take j++[[AVal.int .i64 ((i:Int)+1),.int .i64 0,.int .i64 L,.int .i64 R]]).take (j+1)=(own.map orow).take j++[[AVal.int .i64 ((i:Int)+1),.int .i64 0,.int .i64 L,.int .i64 R]]:=List.take_of_length_le (by simp; omega)
              by_cases hj0:j=0
              · subst hj0
                simp [hno,hx,hxe,orow,hjl,hlen,hxm.2,hgx,hgx2,hL,hgL,hgL2,hr,e1,e2,hwk,FT.indep,appendRowsD,a1,a2,a3,b1,b2]
                exact hN4 [(3,41)] _ _ (by omega) hinj (by simp +contextual [hrr,hrOO,hrw])
              · simp [hno,hx,hxe,orow,hjl,hlen,hxm.2,hgx,hgx2,hL,hgL,hgL2,hr,e1,e2,hj0,hjle,hmin,hwk,hdn0,hol,FT.indep,appendRowsD,a4,a5,a6,a7,a8,a9,b3,b4,b5,sr_slO,List.take_take]
                exact hN4 [(3,41)] _ _ (by omega) hinj (by simp +contextual [hrr,hrOO,hrw,hsum,hrT,hrD])
          · have hje:j=own.length:=by omega
            subst hje
            by_cases hno:own=[]
            · subst hno
              simp [hwk,FT.indep,appendRowsD]
              exact hN4 [(3,37)] _ _ (by omega) hinj (by simp +contextual [hrr,hrOO,hrw])
            · have e1:slV 3 (own.map orow)=.sl 3 0 own.length:=by rw [slV_ne (by simpa using hno),List.length_map]
              have e2:blV 3 4 (own.map orow) []=[(3,.cells 4 (own.map orow))]:=blV_ne (by simpa using hno)
              have hol0:¬own.length=0:=fun e=>hno (List.length_eq_zero_iff.1 e)
              have a4:own.length≤1048576:=by omega
              have a5:own.length+1≤1048576:=by omega
              have a8:¬own.length+1≤own.length:=by omega
              have b2:own.length≤1048575:=by omega
              have a3:(own.map orow).take own.length=own.map orow:=List.take_of_length_le (by simp)
              have b5:(own.map orow++[[AVal.int .i64 ((i:Int)+1),.int .i64 0,.int .i64 L,.int .i64 R]]).take (own.length+1)=own.map orow++[[AVal.int .i64 ((i:Int)+1),.int .i64 0,.int .i64 L,.int .i64 R]]:=List.take_of_length_le (by simp)
              have b6:(own.map orow).drop own.length=[]:=List.drop_eq_nil_of_le (by simp)
              have b7:(own.map orow++[[AVal.int .i64 ((i:Int)+1),.int .i64 0,.int .i64 L,.int .i64 R]]).drop (own.length+1)=[]:=List.drop_eq_nil_of_le (by simp)
              rw [a3,b6] at hN4
              simp [hno,orow,hlen,e1,e2,hol0,hwk,hol,FT.indep,appendRowsD,a3,a4,a5,a8,b2,b5,b6,b7,sr_slO,List.take_take]
              exact hN4 [(3,37)] _ _ (by omega) hinj (by simp +contextual [hrr,hrOO,hrw])
       · have hst:=stay hlp
         by_cases e1:(at' ls k).g=(i:Int)+1
         · have e2:=hn1 e1
           rw [show (i:Int)+1 - 1=(i:Int) by omega] at e2
           have e3:¬(i:Int)+1=(i:Int):=by omega
           unfold rowL at *
           simp [hlen,hkl,hyl,hgk,hgk2,hgy,hgy2,hw0,e1,e2,e3,hwk,FT.indep]
           exact hN2 [] _ _ (by omega) hst (by simp +contextual [hrr,hrOO,hrw])
         · by_cases e4:(at' ls k).g=(i:Int)
           · have e5:=hn2 (by omega)
             have e3:¬(i:Int)=(i:Int)+1:=by omega
             unfold rowL at *
             simp [hlen,hkl,hyl,hgk,hgk2,hgy,hgy2,hw0,e3,e4,e5,hwk,FT.indep]
             exact hN2 [] _ _ (by omega) hst (by simp +contextual [hrr,hrOO,hrw])
           · unfold rowL at *
             simp [hlen,hkl,hyl,hgk,hgk2,hgy,hgy2,hw0,e1,e4,hwk,FT.indep]
             exact hN2 [] _ _ (by omega) hst (by simp +contextual [hrr,hrOO,hrw])
     · have hf:(decide ((at' ls k).k=1)&&down ls k)=false:=by
        cases hdd:down ls k with
        | false=>simp
        | true=>
         have:¬(at' ls k).k=1:=fun e=>hkd ⟨e,hdd⟩
         simp [this]
       have hlp:isLp ls ((i:Int)+1) k=false:=by
        unfold isLp
        rw [hf]; rfl
       rw [hf] at hd
       have hst:=stay hlp
       simp [hlen,hkl,hwk]
       refine SC_pure hd ?_
       simp [hwk]
       exact hN2 [] _ _ (by omega) hst (by simp +contextual [hrr,hrOO,hrw])
   · have hke:k=ls.length:=by omega
     subst hke
     have hcn:own.length=cnL ls ((i:Int)+1):=hk1
     have hcl:cnL ls ((i:Int)+1)≤1000:=by have:=cnL_le (ls:=ls) (f:=(i:Int)+1); omega
     clear hN' hk1 hdn hwr hg
     simp [hlen]
     refine wZ_loop (α:=Nat×List Ow×List Ow) (fun a=>[(12,.int .i64 a.1),(5,slV 3 (a.2.1.map orow)),(4,.int .i64 ((i:Int)+1)),(3,slV 2 (a.2.2.map orow)),(1,.ptr 1 0 0)])
      (fun a=>⟨(1,.cells 2 [[.int .i64 F,.imm rows]]) :: blV 2 4 (a.2.2.map orow) (blV 3 4 (a.2.1.map orow) []),4⟩) (fun a=>own.length - a.1)
      (fun a=>a.1≤own.length∧a.2.1.length=own.length∧(∀ x,x∈a.2.1→x.f=(i:Int)+1)∧a.2.2.map (·.f)=fgs ls i++List.replicate a.1 ((i:Int)+1)) (0,own,O) [] (by simp +contextual [hrr,hrOO,hrw]) ⟨by simp,rfl,fun x hx=>(hk2 x hx).1,by simp [hO]⟩ ?_
     rintro⟨a,ow,O2⟩ ⟨ha,hal,haf,haO⟩ M hM
     simp only at ha hal haf haO
     try simp only
     have hrw2:=hrO ow
     have hrO2:=hrO O2
     have hO2l:O2.length≤1000000:=by
      have h1:=congrArg List.length haO
      rw [List.length_map,List.length_append,List.length_replicate] at h1
      have h2:=fgs_le (ls:=ls) h i
      have h3:i*1000≤999*1000:=Nat.mul_le_mul_right _ (by omega)
      omega
     by_cases hlt2:a<own.length
     · obtain⟨x,hx⟩:∃ x,ow[a]? = some x:=⟨ow[a],List.getElem?_eq_getElem (by omega)⟩
       have hxf:=haf x (List.mem_of_getElem? hx)
       have hno:¬ow=[]:=fun e=>by subst e; simp at hx
       have hwa:IntKind.i64.wrap ((a:Int)+1)=(a:Int)+1:=wrap64 (by omega) (by omega)
       have e1:slV 3 (ow.map orow)=.sl 3 0 own.length:=by rw [slV_ne (by simpa using hno),List.length_map,hal]
       have e2:blV 3 4 (ow.map orow) []=[(3,.cells 4 (ow.map orow))]:=blV_ne (by simpa using hno)
       have hg1:=orow_get hx
       have hset:(ow.map orow).set a [.int .i64 x.f,.int .i64 ((a:Int)+1),.int .i64 x.l,.int .i64 x.r]=(ow.set a ⟨x.f,(a:Int)+1,x.l,x.r⟩).map orow:=by
        rw [List.map_set]; rfl
       have hg2:((ow.set a ⟨x.f,(a:Int)+1,x.l,x.r⟩).map orow)[a]? = some [.int .i64 x.f,.int .i64 ((a:Int)+1),.int .i64 x.l,.int .i64 x.r]:=by
        rw [List.getElem?_map,List.getElem?_set_self (by omega)]; rfl
       have hM2:=hM (a+1,ow.set a ⟨x.f,(a:Int)+1,x.l,x.r⟩,O2++[⟨x.f,(a:Int)+1,x.l,x.r⟩])
       have hno2:(ow.set a ⟨x.f,(a:Int)+1,x.l,x.r⟩).map orow≠[]:=by simpa using hno
       have e3:slV 3 ((ow.set a ⟨x.f,(a:Int)+1,x.l,x.r⟩).map orow)=.sl 3 0 own.length:=by rw [slV_ne hno2,List.length_map,List.length_set,hal]
       have e4:blV 3 4 ((ow.set a ⟨x.f,(a:Int)+1,x.l,x.r⟩).map orow) []=[(3,.cells 4 ((ow.set a ⟨x.f,(a:Int)+1,x.l,x.r⟩).map orow))]:=blV_ne hno2
       have hinv:a+1≤own.length∧(ow.set a ⟨x.f,(a:Int)+1,x.l,x.r⟩).length=own.length∧(∀ z,z∈ow.set a ⟨x.f,(a:Int)+1,x.l,x.r⟩→z.f=(i:Int)+1)∧(O2++[(⟨x.f,(a:Int)+1,x.l,x.r⟩:Ow)]).map (·.f)=fgs ls i++List.replicate (a+1) ((i:Int)+1):=by
        refine⟨by omega,by rw [List.length_set,hal],fun z hz=>?_,?_⟩
        · rcases List.mem_or_eq_of_mem_set hz with hz | hz
          · exact haf z hz
          · rw [hz]; exact hxf
        · rw [List.map_append,haO,List.append_assoc]
          congr 1
          rw [List.replicate_succ']
          simp [hxf]
       simp only at hM2
       rw [e3,e4] at hM2
       have hrw3:=hrO (ow.set a ⟨x.f,(a:Int)+1,x.l,x.r⟩)
       have hml:(ow.map orow).length=own.length:=by rw [List.length_map,hal]
       have hml2:((ow.set a ⟨x.f,(a:Int)+1,x.l,x.r⟩).map orow).length=own.length:=by rw [List.length_map,List.length_set,hal]
       rw [e1,e2]
       clear e1 e2 e3 e4 hno2 hM
       generalize (ow.set a ⟨x.f,(a:Int)+1,x.l,x.r⟩).map orow=T2 at *
       generalize ow.map orow=T at *
       unfold orow at hg1
       obtain⟨hg1l,hg12⟩:=getE hg1
       obtain⟨hg2l,hg22⟩:=getE hg2
       have hO2l':O2.length≤1048575:=by omega
       simp [hlt2,hml,hml2,hg1,hg12,hwa,hset,hg2,hg22,hO2l']
       exact hM2 [(2,21)] _ _ (by omega) hinv (by simp +contextual [hrr,hrO2,hrw3,orow])
     · have hae:a=own.length:=by omega
       subst hae
       have hN2:=hN (i+1,O2)
       simp [hlt2,hal,hw1]
       exact hN2 [] _ _ (by omega) ⟨by omega,by rw [haO,hcn]; rfl⟩ (by simp +contextual [hrr,hrO2])
 · have hie:i=F:=by omega
   subst hie
   have hgt:¬(i:Int)+1≤(i:Int):=by omega
   have hK':=hK _ _ ⟨O,hO,rfl,rfl⟩
   simp [hgt]
   exact endK hK' [(1,2)] (by simp +contextual [hrOO])
end Go.Known
end
