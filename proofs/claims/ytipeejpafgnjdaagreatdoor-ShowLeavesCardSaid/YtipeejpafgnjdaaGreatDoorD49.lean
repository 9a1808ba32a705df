/- Part 49 of the proof: Tz, Wa. -/
import Derived.Test.YtipeejpafgnjdaaGreatDoorD48
set_option linter.all false
section
namespace Go.Known
open Go Go.AE Go.Proofs
open Go.Plain
def ctL (l:List Int) (F:Nat):List Nat:=(List.range F).map fun j:Nat=>(l.filter fun z=>decide (z=(j:Int)+1)).length
section
variable {ls:List Lt} {F:Nat}
theorem ctL_length (l:List Int):(ctL l F).length=F:=by simp [ctL]
theorem ctL_get {l:List Int} {j:Nat} (h:j<F):(ctL l F)[j]? = some (l.filter fun z=>decide (z=(j:Int)+1)).length:=by
 unfold ctL
 rw [List.getElem?_map,List.getElem?_range h]
 rfl
theorem ctL_step {l:List Int} {a g:Nat} (h:l[a]? = some ((g:Int)+1)) (hg:g<F) :
 ctL (l.take (a+1)) F=(ctL (l.take a) F).set g (((l.take a).filter fun z=>decide (z=(g:Int)+1)).length+1):=by
 apply List.ext_getElem?
 intro j
 rw [List.getElem?_set]
 by_cases hj:j<F
 · rw [ctL_get hj,List.take_add_one,h,List.filter_append,List.length_append]
   by_cases hgj:g=j
   · subst hgj
     rw [if_pos rfl,if_pos (by rw [ctL_length]; exact hj)]
     simp
   · rw [if_neg hgj,ctL_get hj]
     have:¬(g:Int)+1=(j:Int)+1:=by omega
     simp [this]
 · rw [List.getElem?_eq_none (by rw [ctL_length]; omega)]
   split
   · rename_i e
     subst e
     exact absurd hg hj
   · rw [List.getElem?_eq_none (by rw [ctL_length]; omega)]
theorem fgs_mem {z:Int}:∀ {i:Nat},z∈fgs ls i → ∃ g:Nat,g<i∧z=(g:Int)+1
 | 0,h=>by simp [fgs] at h
 | i+1,h=>by
  rw [fgs,List.mem_append] at h
  rcases h with h | h
  · obtain⟨g,h1,h2⟩:=fgs_mem h
    exact⟨g,by omega,h2⟩
  · exact⟨i,by omega,(List.mem_replicate.1 h).2⟩
theorem fgs_count (j:Nat):∀ i,((fgs ls i).filter fun z=>decide (z=(j:Int)+1)).length=if j<i then cnL ls ((j:Int)+1) else 0
 | 0=>rfl
 | i+1=>by
  rw [fgs,List.filter_append,List.length_append,fgs_count j i]
  by_cases h:j=i
  · subst h
    rw [if_neg (by omega),if_pos (by omega),List.filter_replicate]
    simp
  · have h2:¬(i:Int)+1=(j:Int)+1:=by omega
    rw [List.filter_replicate]
    by_cases h3:j<i
    · rw [if_pos h3,if_pos (show j<i+1 by omega)]
      simp [h2]
    · rw [if_neg h3,if_neg (show ¬j<i+1 by omega)]
      simp [h2]
theorem ctL_fgs:ctL (fgs ls F) F=cnLs ls F:=by
 apply List.ext_getElem?
 intro j
 by_cases hj:j<F
 · rw [ctL_get hj,cnLs_get hj,fgs_count,if_pos hj]
 · rw [List.getElem?_eq_none (by rw [ctL_length]; omega),List.getElem?_eq_none (by rw [cnLs_length]; omega)]
theorem ctL_nil:nums (ctL [] F)=List.replicate F [.int .i64 0]:=by
 apply List.ext_getElem?
 intro j
 by_cases hj:j<F
 · rw [nums_get (ctL_get hj),List.getElem?_replicate,if_pos hj]; rfl
 · rw [List.getElem?_eq_none (by rw [len_nums,ctL_length]; omega),List.getElem?_replicate,if_neg hj]
end
set_option maxRecDepth 100000 in
set_option maxHeartbeats 8000000 in
theorem cRLoops (F:Nat) (ls:List Lt) (hF:F≤1000) (h:ls.length≤1000) (hP:PosP ls) (hq:∀ l,l∈ls→l.k=1→0≤l.g∧l.g≤40) :
 PCall Tryz.prog 66 [cV F ls] (.imm (nums (cnLs ls F))):=by
 refine PCall_F hm 4 Tryz.func66 cjRLoops rfl rfl (by simp [closedL,AVal.closed,closed_rows]) (by simp [AVal.closed,closed_nums]) fun K hK=>?_
 have hKv:=hK (.sl 1 0 (nums (cnLs ls F)).length) ⟨[(1,.cells 1 (nums (cnLs ls F)))],2⟩ (freeze_rows (k:=1) (by simp) (scal_nums _))
 clear hK
 have hrr:∀ q,renLL q (ls.map rowL)=ls.map rowL:=fun q=>renLL_closed q _ (closed_rows ls)
 have hOf:=cROf F ls hF h hP hq
 unfold cV at *
 generalize ls.map rowL=rows at *
 have hF2:F≤1048576:=by omega
 simp [hF2]
 refine SC_ctr hOf [] (by simp [hrr]) (by simp) (by simp) ?_
 rintro r sm ⟨O,hO,rfl,rfl⟩
 have hrO:∀ q,renLL q (O.map orow)=O.map orow:=fun q=>renLL_closed q _ (closed_orow O)
 have hOl:O.length=(fgs ls F).length:=by rw [← hO,List.length_map]
 have hrn:=ren_nums
 have hrz:∀ k,renLL k (List.replicate F [AVal.int .i64 0])=List.replicate F [AVal.int .i64 0]:=fun k=>by rw [← ctL_nil]; exact hrn k _
 simp [hrO]
 refine wZ_loop (α:=Nat) (fun a=>[(5,.int .i64 a),(4,slV 3 (O.map orow)),(3,.sl 2 0 F)])
  (fun a=>⟨(2,.cells 1 (nums (ctL ((fgs ls F).take a) F))) :: blV 3 4 (O.map orow) [],4⟩) (fun a=>O.length - a) (fun a=>a≤O.length) 0 [(2,5),(3,10)] (by simp +contextual [hrO,hrz,ctL_nil]) (by simp) ?_
 intro a ha N hN
 try simp only at ha hN ⊢
 by_cases hlt:a<O.length
 · obtain⟨x,hx⟩:∃ x,O[a]? = some x:=⟨O[a],List.getElem?_eq_getElem hlt⟩
   have hz:(fgs ls F)[a]? = some x.f:=by rw [← hO,List.getElem?_map,hx]; rfl
   obtain⟨g,hg,hxg⟩:=fgs_mem (List.mem_of_getElem? hz)
   rw [hxg] at hz
   have hst:=ctL_step hz hg
   have hc:=ctL_get (l:=(fgs ls F).take a) hg
   have hcn:=nums_get hc
   obtain⟨hcn1,hcn2⟩:=getE hcn
   have hno:¬O=[]:=fun e=>by subst e; simp at hx
   have e1:slV 3 (O.map orow)=.sl 3 0 O.length:=by rw [slV_ne (by simpa using hno),List.length_map]
   have e2:blV 3 4 (O.map orow) []=[(3,.cells 4 (O.map orow))]:=blV_ne (by simpa using hno)
   have hg1:=orow_get hx
   have hO2:O.length≤1000000:=by
    have h2:=fgs_le (ls:=ls) h F
    have h3:F*1000≤1000*1000:=Nat.mul_le_mul_right _ hF
    omega
   obtain⟨q,hqq⟩:∃ q,(((fgs ls F).take a).filter fun z=>decide (z=(g:Int)+1)).length=q:=⟨_,rfl⟩
   have hqa:q≤1000000:=by
    rw [← hqq]
    have h1:=List.length_filter_le (fun z=>decide (z=(g:Int)+1)) ((fgs ls F).take a)
    have h2:((fgs ls F).take a).length≤a:=by rw [List.length_take]; exact Nat.min_le_left _ _
    omega
   rw [hqq] at hcn hcn2 hst
   have hset:(nums (ctL ((fgs ls F).take a) F)).set g [.int .i64 ((q:Int)+1)]=nums (ctL ((fgs ls F).take (a+1)) F):=by
    rw [hst,nums,nums,List.map_set]; rfl
   have hwa:IntKind.i64.wrap ((a:Int)+1)=(a:Int)+1:=wrap64 (by omega) (by omega)
   have hwg:IntKind.i64.wrap (g:Int)=(g:Int):=wrap64 (by omega) (by omega)
   have hwq:IntKind.i64.wrap ((q:Int)+1)=(q:Int)+1:=wrap64 (by omega) (by omega)
   have hnl:(nums (ctL ((fgs ls F).take a) F)).length=F:=by rw [len_nums,ctL_length]
   have hN':=hN (a+1)
   rw [← hset] at hN'
   have hrn0:=hrn
   have hrn1:=fun k=>hrn k (ctL ((fgs ls F).take a) F)
   have hrn2:=fun k=>hrn k (ctL ((fgs ls F).take (a+1)) F)
   rw [← hset] at hrn2
   rw [e1,e2] at hN' ⊢
   have hml:(O.map orow).length=O.length:=by rw [List.length_map]
   clear hN hst hset hKv hO e1 e2
   generalize O.map orow=T at *
   generalize nums (ctL ((fgs ls F).take a) F)=W at *
   unfold orow at hg1
   rw [hxg] at hg1
   obtain⟨hg1l,hg12⟩:=getE hg1
   simp [hlt,hml,hg1,hg12,hwa,hwg,hwq,hg,hnl,hcn,hcn2]
   exact hN' [] _ _ (by omega) (by omega) (by simp [hrO,hrn2])
 · have hae:a=O.length:=by omega
   subst hae
   have hct:ctL ((fgs ls F).take O.length) F=cnLs ls F:=by rw [hOl,List.take_length,ctL_fgs]
   rw [hct]
   have hfl:(nums (cnLs ls F)).length=F:=by rw [len_nums,cnLs_length]
   rw [hfl] at hKv
   simp [hlt]
   exact endK hKv [(1,2)] (by simp [hrn])
end Go.Known
end
section
namespace Go.Known
open Go Go.AE Go.Proofs
open Go.Plain
def thB (p:Int) (fs:List Fg):Nat→Bool
 | 0=>false
 | d+1=>if (fgAt fs (fs.length - (d+1))).p=p then true else thB p fs d
def hoB (p:Int) (fs:List Fg) (ls:List Lt):Nat→Bool
 | 0=>false
 | d+1=>if (fgAt fs (fs.length - (d+1))).p=p then (hoB p fs ls d||decide (0<cnL ls ((fs.length - (d+1):Nat)+1:Int))) else hoB p fs ls d
def stD (p:Int) (fs:List Fg) (d:Nat):List Fg:=stayF p (fs.drop (fs.length - d))
section
variable {p:Int} {fs:List Fg} {ls:List Lt} {d:Nat}
theorem thB_iff:∀ d,d≤fs.length→(thB p fs d=true ↔ ∃ j,fs.length - d≤j∧j<fs.length∧(fgAt fs j).p=p)
 | 0,_=>by simp [thB]; intro j h1 h2; omega
 | d+1,hd=>by
  have ih:=thB_iff d (by omega)
  simp only [thB]
  by_cases h:(fgAt fs (fs.length - (d+1))).p=p
  · rw [if_pos h]
    exact⟨fun _=>⟨_,Nat.le_refl _,by omega,h⟩,fun _=>rfl⟩
  · rw [if_neg h,ih]
    constructor
    · rintro⟨j,h1,h2,h3⟩; exact⟨j,by omega,h2,h3⟩
    · rintro⟨j,h1,h2,h3⟩
      refine⟨j,?_,h2,h3⟩
      rcases Nat.lt_or_ge j (fs.length - d) with h4 | h4
      · have:j=fs.length - (d+1):=by omega
        subst this
        exact absurd h3 h
      · exact h4
theorem hoB_iff:∀ d,d≤fs.length→(hoB p fs ls d=true ↔ ∃ j,fs.length - d≤j∧j<fs.length∧(fgAt fs j).p=p∧0<cnL ls ((j:Int)+1))
 | 0,_=>by simp [hoB]; intro j h1 h2; omega
 | d+1,hd=>by
  have ih:=hoB_iff d (by omega)
  simp only [hoB]
  by_cases h:(fgAt fs (fs.length - (d+1))).p=p
  · rw [if_pos h,Bool.or_eq_true,ih,decide_eq_true_eq]
    constructor
    · rintro(⟨j,h1,h2,h3⟩ | h1)
      · exact⟨j,by omega,h2,h3⟩
      · exact⟨_,Nat.le_refl _,by omega,h,h1⟩
    · rintro⟨j,h1,h2,h3,h4⟩
      rcases Nat.lt_or_ge j (fs.length - d) with h5 | h5
      · have:j=fs.length - (d+1):=by omega
        subst this
        exact .inr h4
      · exact .inl ⟨j,h5,h2,h3,h4⟩
  · rw [if_neg h,ih]
    constructor
    · rintro⟨j,h1,h2,h3⟩; exact⟨j,by omega,h2,h3⟩
    · rintro⟨j,h1,h2,h3,h4⟩
      rcases Nat.lt_or_ge j (fs.length - d) with h5 | h5
      · have:j=fs.length - (d+1):=by omega
        subst this
        exact absurd h3 h
      · exact⟨j,h5,h2,h3,h4⟩
theorem hasP_iff:hasP p fs=true ↔ ∃ j,j<fs.length∧(fgAt fs j).p=p:=by
 unfold hasP
 rw [List.any_eq_true]
 constructor
 · rintro⟨x,hx,h⟩
   obtain⟨j,hj,rfl⟩:=List.getElem_of_mem hx
   exact⟨j,hj,by rw [fgAt_eq hj]; simpa using h⟩
 · rintro⟨j,hj,h⟩
   exact⟨_,List.getElem_mem hj,by rw [← fgAt_eq hj]; simpa using h⟩
theorem smP_iff:∀ i,(0<smP p fs ls i ↔ ∃ j,j<i∧(fgAt fs j).p=p∧0<cnL ls ((j:Int)+1))
 | 0=>by simp [smP]
 | i+1=>by
  have ih:=smP_iff i
  simp only [smP]
  constructor
  · intro h
    by_cases h1:0<smP p fs ls i
    · obtain⟨j,h2,h3⟩:=ih.1 h1
      exact⟨j,by omega,h3⟩
    · by_cases h2:(fgAt fs i).p=p
      · rw [if_pos h2] at h
        exact⟨i,by omega,h2,by omega⟩
      · rw [if_neg h2] at h; omega
  · rintro⟨j,h1,h2,h3⟩
    rcases Nat.lt_or_ge j i with h4 | h4
    · have:=ih.2 ⟨j,h4,h2,h3⟩
      omega
    · have:j=i:=by omega
      subst this
      rw [if_pos h2]
      omega
theorem thB_all:thB p fs fs.length=hasP p fs:=by
 rw [Bool.eq_iff_iff,thB_iff _ (Nat.le_refl _),hasP_iff]
 simp
theorem hoB_all:hoB p fs ls fs.length=decide (0<smP p fs ls fs.length):=by
 rw [Bool.eq_iff_iff,hoB_iff _ (Nat.le_refl _),decide_eq_true_eq,smP_iff]
 simp
theorem stD_stay {j:Nat} (h:j+(d+1)=fs.length) (hp:¬(fgAt fs j).p=p):stD p fs (d+1)=fgAt fs j :: stD p fs d:=by
 have e1:fs.length - (d+1)=j:=by omega
 have e2:fs.length - d=j+1:=by omega
 unfold stD
 rw [e1,e2,drop_fg (j:=j) (by omega),stay_cons,if_neg hp]
theorem stD_go {j:Nat} (h:j+(d+1)=fs.length) (hp:(fgAt fs j).p=p):stD p fs (d+1)=stD p fs d:=by
 have e1:fs.length - (d+1)=j:=by omega
 have e2:fs.length - d=j+1:=by omega
 unfold stD
 rw [e1,e2,drop_fg (j:=j) (by omega),stay_cons,if_pos hp]
theorem stD_le:(stD p fs d).length≤fs.length:=by
 unfold stD stayF
 have:=List.length_filter_le (fun x:Fg=>!decide (x.p=p)) (fs.drop (fs.length - d))
 simp at this ⊢
 omega
theorem stD_all:stD p fs fs.length=stayF p fs:=by simp [stD]
end
theorem fz_frS (fs:List Fg) (re lo f e:Int) (ls:List Lt):freezeV (SMem.get ⟨blV 1 3 (fs.map rowG) [],2⟩) 5 (.tuple [.agg [slV 1 (fs.map rowG),.int .i64 re,.int .i64 lo],cV f ls,.int .i64 e])=some (.tuple [.agg [imV (fs.map rowG),.int .i64 re,.int .i64 lo],cV f ls,.int .i64 e]):=by
 have h1:=frz_slV (get:=SMem.get ⟨blV 1 3 (fs.map rowG) [],2⟩) (n:=1) (b:=1) (k:=3) (rows:=fs.map rowG) (by simp) (scal_rowG fs)
 have h2:=freeze_imm (get:=SMem.get ⟨blV 1 3 (fs.map rowG) [],2⟩) (n:=2) (scal_rows (get:=SMem.get ⟨blV 1 3 (fs.map rowG) [],2⟩) (n:=1) ls)
 unfold cV
 rw [freezeV]
 simp only [mapO]
 rw [freezeV]
 simp only [mapO]
 rw [h1,freezeV]
 simp only [mapO]
 rw [h2]
 rfl
noncomputable def lvS (p:Int) (fs:List Fg) (re lo f:Int) (ls:List Lt):AVal:=
 if handE fs re lo f ls≠0 then .tuple [.agg [.nilSl,.int .i64 0,.int .i64 0],.agg [.int .i64 0,.nilSl],.int .i64 (handE fs re lo f ls)]
 else if lvE p fs ls≠0 then .tuple [.agg [.nilSl,.int .i64 0,.int .i64 0],.agg [.int .i64 0,.nilSl],.int .i64 (lvE p fs ls)]
 else .tuple [.agg [imV ((stayF p fs).map rowG),.int .i64 re,.int .i64 lo],cV (lvC p fs ls).1 (lvC p fs ls).2,.int .i64 0]
theorem closed_lvS (p:Int) (fs:List Fg) (re lo f:Int) (ls:List Lt):(lvS p fs re lo f ls).closed=true:=by
 unfold lvS
 split
 · rfl
 · split
   · rfl
   · simp [AVal.closed,closedL,closed_imV (closed_rowG _),closed_rows]
set_option maxRecDepth 100000 in
set_option maxHeartbeats 8000000 in
theorem cRLeave (p:Int) (fs:List Fg) (re lo f:Int) (ls:List Lt) (hf:fs.length≤1000) (h:ls.length≤1000):PCall Tryz.prog 25 [frV fs re lo,cV f ls,.int .i64 p] (lvS p fs re lo f ls):=by
 refine PCall_F hm 5 Tryz.func25 cjRLeave rfl rfl (by simp [closedL,AVal.closed,closed_rowG,closed_rows,frV]) (closed_lvS _ _ _ _ _ _) fun K hK=>?_
 have hrs:∀ (x:List Lt) q,renLL q (x.map rowL)=x.map rowL:=fun x q=>renLL_closed q _ (closed_rows x)
 have hrf:∀ (x:List Fg) q,renLL q (x.map rowG)=x.map rowG:=fun x q=>renLL_closed q _ (closed_rowG x)
 have hRf:=cRefused fs re lo f ls hf h
 unfold lvS at hK
 have hrs1:=hrs ls
 have hrf1:=hrf fs
 have h114:=c114v f ls h
 have hNo:∀ e:Int,(∀ r sm,freezeV sm.get 5 r=some (.tuple [.agg [.nilSl,.int .i64 0,.int .i64 0],.agg [.int .i64 0,.nilSl],.int .i64 e])→K r sm)→K (.tuple [.agg [.nilSl,.int .i64 0,.int .i64 0],.agg [.int .i64 0,.nilSl],.int .i64 e]) ⟨[],1⟩:=fun e hk=>hk _ _ rfl
 by_cases hE:handE fs re lo f ls=0
 · rw [if_neg (by simp [hE])] at hK
   obtain⟨_,hE',hF,hP⟩:=handE_zero hE
   subst hF
   have hLo:=cRLoops fs.length ls hf h hP (gates_of hE')
   have hnl:(nums (cnLs ls fs.length)).length=fs.length:=by rw [len_nums,cnLs_length]
   have hng:=fun i (hi:i<fs.length)=>nums_get (cnLs_get (ls:=ls) hi)
   have hrn:∀ q,renLL q (nums (cnLs ls fs.length))=nums (cnLs ls fs.length):=fun q=>ren_nums q _
   have hlen:(fs.map rowG).length=fs.length:=List.length_map ..
   have hgf:=fun i hi=>get_rowG fs (i:=i) hi
   generalize nums (cnLs ls fs.length)=NN at *
   rw [hE] at hRf
   unfold frV cV at *
   simp
   refine SC_pure hRf ?_
   simp
   refine SC_pure hLo ?_
   simp
   refine SC_pure h114 ?_
   simp
   obtain⟨S,hS⟩:∃ S:Nat→List (List AVal),∀ d,(stD p fs d).map rowG=S d:=⟨_,fun _=>rfl⟩
   obtain⟨g,hg⟩:∃ g:Nat→Int,∀ d,(lvD p fs fs.length ls d).1=g d:=⟨_,fun _=>rfl⟩
   obtain⟨C,hC⟩:∃ C:Nat→List (List AVal),∀ d,(lvD p fs fs.length ls d).2.map rowL=C d:=⟨_,fun _=>rfl⟩
   have hrS:∀ d q,renLL q (S d)=S d:=fun d q=>by rw [← hS]; exact hrf _ q
   have hrC:∀ d q,renLL q (C d)=C d:=fun d q=>by rw [← hC]; exact hrs _ q
   have hS0:S 0=[]:=by rw [← hS]; simp [stD,stayF]
   have hg0:g 0=fs.length:=by rw [← hg]; rfl
   have hC0:C 0=ls.map rowL:=by rw [← hC]; rfl
   have hSl:∀ d,(S d).length≤1000:=fun d=>by rw [← hS,List.length_map]; have:=stD_le (p:=p) (fs:=fs) (d:=d); omega
   have hgo:∀ d j,j+(d+1)=fs.length→(fgAt fs j).p=p→S (d+1)=S d∧g (d+1)=g d - 1∧thB p fs (d+1)=true∧hoB p fs ls (d+1)=(hoB p fs ls d||decide (0<cnL ls ((j:Int)+1))) ∧
    PCall Tryz.prog 67 [.agg [.int .i64 (g d),.imm (C d)],.int .i64 ((j:Int)+1)] (.agg [.int .i64 (g d - 1),.imm (C (d+1))]):=fun d j hj hpj=>by
    obtain⟨k1,k2,k3⟩:=lvD_ok (p:=p) hE' d (by omega)
    have e1:fs.length - (d+1)=j:=by omega
    have hge:=lvF_length_ge (p:=p) (fs:=fs) (d:=d)
    have hD:lvD p fs fs.length ls (d+1)=((lvD p fs fs.length ls d).1 - 1,foN ((j:Int)+1) (lvD p fs fs.length ls d).2):=by
     simp only [lvD,e1]
     rw [if_pos hpj]
    refine⟨by rw [← hS,← hS,stD_go hj hpj],by rw [← hg,← hg,hD],?_,?_,?_⟩
    · simp only [thB,e1]; rw [if_pos hpj]
    · simp only [hoB,e1]; rw [if_pos hpj]
    · have:=cRForgetA (lvD p fs fs.length ls d).1 ((j:Int)+1) (lvD p fs fs.length ls d).2 k1 (by omega) (by rw [k2]; omega)
      unfold cV at this
      rw [← hg,← hC,← hC,hD]
      exact this
   have hst:∀ d j,j+(d+1)=fs.length → ¬(fgAt fs j).p=p→S (d+1)=rowG (fgAt fs j) :: S d∧g (d+1)=g d∧thB p fs (d+1)=thB p fs d∧hoB p fs ls (d+1)=hoB p fs ls d∧C (d+1)=C d:=fun d j hj hpj=>by
    have e1:fs.length - (d+1)=j:=by omega
    have hD:lvD p fs fs.length ls (d+1)=lvD p fs fs.length ls d:=by
     simp only [lvD,e1]
     rw [if_neg hpj]
    refine⟨by rw [← hS,← hS,stD_stay hj hpj]; rfl,by rw [← hg,← hg,hD],?_,?_,by rw [← hC,← hC,hD]⟩
    · simp only [thB,e1]; rw [if_neg hpj]
    · simp only [hoB,e1]; rw [if_neg hpj]
   have hth:=thB_all (p:=p) (fs:=fs)
   have hho:=hoB_all (p:=p) (fs:=fs) (ls:=ls)
   rw [← hC0]
   refine wZ_loop (α:=Nat) (fun d=>[(15,.int .i64 ((fs.length:Int) - (d:Int))),(14,.ptr 6 0 0),(13,.ptr 5 0 0),(12,.bool (hoB p fs ls d)),(11,.bool (thB p fs d)),(10,.imm NN),(7,.ptr 4 0 0),(6,.ptr 3 0 0),(3,.ptr 1 0 0),(2,.int .i64 p)])
    (fun d=>⟨(5,.cells 3 [[slV 7 (S d),.int .i64 re,.int .i64 lo]]) :: (6,.cells 2 [[.int .i64 (g d),.imm (C d)]]) :: (3,.cells 3 [[.nilSl,.int .i64 0,.int .i64 0]]) :: (4,.cells 2 [[.int .i64 0,.nilSl]]) :: (1,.cells 3 [[.imm (fs.map rowG),.int .i64 re,.int .i64 lo]]) :: blV 7 3 (S d) [],8⟩)
    (fun d=>fs.length - d) (fun d=>d≤fs.length) 0 [(5,22),(6,26)] (by simp [hrf1,hrC,hS0,hg0,thB,hoB,hrn]) (by simp) ?_
   intro d hd N hN
   try simp only at hd hN ⊢
   have hrSd:=hrS d
   have hrCd:=hrC d
   have hrC1:=hrC (d+1)
   generalize fs.map rowG=rowsG at *
   by_cases hlt:d<fs.length
   · obtain⟨j,hj⟩:∃ j,j+(d+1)=fs.length:=⟨fs.length - (d+1),by omega⟩
     have hji:(fs.length:Int) - (d:Int)=(j:Int)+1:=by omega
     have hji2:(fs.length:Int) - ((d:Int)+1)=(j:Int):=by omega
     have hjl:j<fs.length:=by omega
     have hwj:IntKind.i64.wrap (j:Int)=(j:Int):=wrap64 (by omega) (by omega)
     have hgj:=hgf j hjl
     obtain⟨hgl,hg2⟩:=getE hgj
     have hnj:=hng j hjl
     obtain⟨hnl1,hn2⟩:=getE hnj
     have hN':=hN (d+1)
     have h1j:(1:Int)≤(j:Int)+1:=by omega
     rw [Int.natCast_add,Int.natCast_one,hji2] at hN'
     rw [hji]
     have hSld:=hSl d
     by_cases hpj:(fgAt fs j).p=p
     · obtain⟨k1,k2,k3,k4,k5⟩:=hgo d j hj hpj
       rw [k1,k2,k3,k4] at hN'
       unfold rowG at *
       cases hb:hoB p fs ls d with
       | true=>
        rw [hb] at hN'
        simp [h1j,hlen,hjl,hgj,hg2,hwj,hpj,hb]
        refine SC_pure k5 ?_
        simp [hwj]
        exact hN' [] _ _ (by omega) (by omega) (by simp +contextual [hrSd,hrCd,hrC1,hrf1,hrn])
       | false=>
        rw [hb] at hN'
        simp [h1j,hlen,hjl,hgj,hg2,hwj,hpj,hb,hnl,hnj,hn2]
        refine SC_pure k5 ?_
        simp [hwj]
        exact hN' [] _ _ (by omega) (by omega) (by simp +contextual [hrSd,hrCd,hrC1,hrf1,hrn])
     · obtain⟨k1,k2,k3,k4,k5⟩:=hst d j hj hpj
       rw [k1,k2,k3,k4,k5,slV_ne (List.cons_ne_nil _ _),blV_ne (List.cons_ne_nil _ _)] at hN'
       unfold rowG at *
       by_cases hS1:S d=[]
       · rw [hS1] at hN' ⊢
         simp [h1j,hlen,hjl,hgj,hg2,hwj,hpj,FT.indep,appendRowsD]
         exact hN' [(7,25)] _ _ (by omega) (by omega) (by simp +contextual [hrSd,hrCd,hrf1,hrn])
       · have e1:slV 7 (S d)=.sl 7 0 (S d).length:=slV_ne hS1
         have e2:blV 7 3 (S d) []=[(7,.cells 3 (S d))]:=blV_ne hS1
         have a1:¬1+(S d).length≤1:=by
          have:0<(S d).length:=List.length_pos_iff.2 hS1
          omega
         have a2:1+(S d).length≤1048576:=by omega
         have a3:(S d).length≤1048575:=by omega
         have b1:1+(S d).length=(S d).length+1:=by omega
         rw [e1,e2]
         simp [h1j,hlen,hjl,hgj,hg2,hwj,hpj,hS1,FT.indep,appendRowsD,a1,a2,a3,b1]
         exact hN' [(7,28)] _ _ (by omega) (by omega) (by simp +contextual [hrSd,hrCd,hrf1,hrn])
   · have hde:d=fs.length:=by omega
     subst hde
     have hz:(fs.length:Int) - (fs.length:Int)=0:=by omega
     rw [hz]
     cases hh:hasP p fs with
     | false=>
      have hl:lvE p fs ls=8:=by unfold lvE; rw [if_pos hh]
      rw [if_pos (by rw [hl]; decide),hl] at hK
      have hKv:=hNo _ hK
      simp [hth,hh]
      exact endK hKv [] (by simp)
     | true=>
      by_cases hs:smP p fs ls fs.length=0
      · have hl:lvE p fs ls=0:=by unfold lvE; rw [if_neg (by simp [hh]),if_pos hs]
        rw [if_neg (by simp [hl])] at hK
        have hKv:=hK _ _ (fz_frS (stayF p fs) re lo (lvC p fs ls).1 0 (lvC p fs ls).2)
        rw [← stD_all,hS] at hKv
        unfold lvC cV at hKv
        rw [hg,hC] at hKv
        simp [hth,hh,hho,hs,FT.indep]
        exact endK hKv [(1,7)] (by simp +contextual [hrS,hrC])
      · have hl:lvE p fs ls=5:=by unfold lvE; rw [if_neg (by simp [hh]),if_neg hs]
        have hpos:0<smP p fs ls fs.length:=Nat.pos_of_ne_zero hs
        rw [if_pos (by rw [hl]; decide),hl] at hK
        have hKv:=hNo _ hK
        simp [hth,hh,hho,hpos]
        exact endK hKv [] (by simp)
 · rw [if_pos (by simpa using hE)] at hK
   have hKv:=hNo _ hK
   unfold frV cV at *
   simp
   refine SC_pure hRf ?_
   simp [hE]
   exact endK hKv [] (by simp)
end Go.Known
end
