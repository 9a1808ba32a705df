/- Part 45 of the proof: Si. -/
import Derived.Test.YtpaedbidpkepnaaGreatDoorC44
set_option linter.all false
namespace Go.Known
open Go Go.AE Go.Proofs
open Go.Plain
def lsV:Option (List Lt)→AVal
 | none=>.nilSl
 | some w=>.imm (w.map rowL)
theorem ren_lsV (q:Nat→Nat):∀ z,(lsV z).ren q=lsV z
 | none=>rfl
 | some w=>by simp only [lsV,AVal.ren]; rw [renLL_closed q _ (closed_rows w)]
theorem cells_lsV:∀ z,(lsV z).cells=some [lsV z]
 | none=>rfl
 | some _=>rfl
theorem one_lsV:∀ z,AVal.one (lsV z)=true
 | none=>rfl
 | some _=>rfl
def sides (ls:List Lt):Nat→List Lt
 | 0=>ls
 | _=>backN ls
def leastS (ls:List Lt):Nat→Option (List Lt)
 | 0=>none
 | 1=>nrun ls none ls.length
 | _=>normO ls
theorem sides_len (ls:List Lt):∀ i,(sides ls i).length=ls.length
 | 0=>rfl
 | _+1=>backN_length ls
theorem leastS_succ (ls:List Lt) {i:Nat} (h:i<2):leastS ls (i+1)=nrun (sides ls i) (leastS ls i) ls.length:=by
 rcases (show i=0∨i=1 by omega) with rfl | rfl<;>rfl
theorem leastS_len (ls:List Lt) {i:Nat} (h:i<2):∀ w,leastS ls i=some w→w.length=ls.length:=by
 rcases (show i=0∨i=1 by omega) with rfl | rfl
 · intro w hw; cases hw
 · exact fun w hw=>nrun_len rfl (fun w h=>by cases h) _ w hw
theorem nil_imm {R:List (List AVal)} (h:R≠[]):binA .eql .slice (.imm R) .nilSl=some (.bool false):=by
 have:R.isEmpty=false:=by cases R with
  | nil=>exact absurd rfl h
  | cons=>rfl
 simp [binA,eqA,eqNil,isNil,this]
theorem nil_nil:binA .eql .slice .nilSl .nilSl=some (.bool true):=rfl
set_option maxRecDepth 100000 in
set_option maxHeartbeats 16000000 in
theorem c109 (F:Nat) (ls:List Lt) (E:List Ent) (h:ls.length≤1000) (hx:∃ i,i<ls.length∧bkC ls i=true) (hf:isP (at' ls 0)=true) :
 Ctr Tryz.prog 86 [.ptr 1 0 0] (dF F ls (ls.map rowL) E) fun v m=>v=.agg [.int .i64 F,lsV (normO ls)]∧m=⟨(dF F ls (ls.map rowL) E).bl,7⟩:=by
 refine ctr_P hm Tryz.func86 cf109 rfl rfl fun K hK=>?_
 have hK':=hK _ _ ⟨rfl,rfl⟩
 clear hK
 have hlp:0<ls.length:=by obtain⟨i,hi,_⟩:=hx; omega
 have h139:=c139f F ls E h hx
 have hrr:∀ q,renLL q (ls.map rowL)=ls.map rowL:=fun q=>renLL_closed q _ (closed_rows ls)
 have hrb:∀ q,renLL q ((backN ls).map rowL)=(backN ls).map rowL:=fun q=>renLL_closed q _ (closed_rows _)
 have hrs:∀ i q,renLL q ((sides ls i).map rowL)=(sides ls i).map rowL:=fun i q=>renLL_closed q _ (closed_rows _)
 have hsl:∀ i,((sides ls i).map rowL).length=ls.length:=fun i=>by rw [List.length_map,sides_len]
 obtain⟨BK,hBK⟩:∃ BK:List (List AVal),BK=[[.imm (ls.map rowL)],[.imm ((backN ls).map rowL)]]:=⟨_,rfl⟩
 have hBl:BK.length=2:=by rw [hBK]; rfl
 have hBg:∀ i,i<2→BK[i]? = some [.imm ((sides ls i).map rowL)]:=fun i hi=>by
  rw [hBK]
  rcases (show i=0∨i=1 by omega) with rfl | rfl<;>rfl
 have hBr:∀ q,renLL q BK=BK:=fun q=>by
  rw [hBK]
  simp only [renLL,renL,AVal.ren,hrr,hrb]
 unfold dF dM dV2 at *
 generalize hBe:bls (fillN ls.length ls.length (downV ls) false)=B at *
 generalize hCe:nums (fillN ls.length ls.length (placeV ls) 0)=C at *
 generalize hAe:nums (axis ls)=A at *
 have hrA:∀ q,renLL q A=A:=fun q=>by rw [← hAe]; exact ren_nums q _
 have hrB:∀ q,renLL q B=B:=fun q=>by rw [← hBe]; exact ren_bls q _
 have hrC:∀ q,renLL q C=C:=fun q=>by rw [← hCe]; exact ren_nums q _
 clear hBe hCe hAe
 generalize (axis ls).length=m at *
 have hl0:lsV (leastS ls 0)=.nilSl:=rfl
 have hl2:lsV (leastS ls 2)=lsV (normO ls):=rfl
 simp
 refine DC_ctr h139 (by simp) [(1,1),(2,2),(3,3),(4,4),(5,5),(6,6)] (by simp) (by simp [EqRB,hrr,hrA,hrB,hrC,ren_mkE,ren_nums]) (by simp) (fun s=>by simp [hrb]) (by simp) ?_
 simp [hrr,hrA,hrB,hrC,ren_mkE,ren_nums,hrb,FT.indep]
 refine wZ_loop (α:=Nat) (fun i=>[(19,.int .i64 i),(18,.int .i64 2),(17,.sl 8 0 2),(3,lsV (leastS ls i)),(2,.ptr 7 0 0),(0,.ptr 1 0 0)])
  (fun i=>⟨[(1,.cells 7 [[.int .i64 (F:Int),.imm (ls.map rowL),.sl 3 0 ls.length,.sl 5 0 m,.sl 4 0 ls.length,.map 6,.sl 2 0 (F+1)]]),(2,.cells 1 (nums (cnts F ls))),(3,.cells 1 B),(4,.cells 1 C),(5,.cells 1 A),(6,.map (mkE 0 E) E.length),(7,.cells 2 [[.int .i64 0,.nilSl]]),(8,.cells 1 BK)],9⟩)
  (fun i=>2 - i) (fun i=>i≤2) 0 [(8,16)] (by rw [hBK]; simp [hrr,hrb,hrA,hrB,hrC,ren_mkE,ren_nums,hl0,AVal.ren]) (by simp) ?_
 intro i hi N hN
 try simp only at hi hN ⊢
 by_cases hlt:i<2
 · have hb:=hBg i hlt
   obtain⟨hbl,hb2⟩:=getE hb
   have hw:IntKind.i64.wrap ((i:Int)+1)=(i:Int)+1:=wrap64 (by omega) (by omega)
   have hlsc:=leastS_succ ls hlt
   have hlen:=leastS_len ls hlt
   have hN':=hN (i+1)
   rw [hlsc] at hN'
   have hLl:=sides_len ls i
   have hLR:=hsl i
   have hLr:=hrs i
   have hgL:=fun j hj=>get_row (sides ls i) (i:=j) hj
   have h56:=fun j hj=>c56g (sides ls i) j hj (by rw [hLl]; exact h)
   generalize leastS ls i=z0 at *
   generalize sides ls i=L at *
   clear hN hBK
   have hlt':(i:Int)<2:=by omega
   simp [hlt,hlt',hb,hb2,hBl,hLR]
   have h140:=fun j=>c140 (rotL j L) (by
    intro e
    have:=congrArg List.length e
    rw [rotL_length,hLl,List.length_nil] at this
    omega) (by rw [rotL_length]; omega)
   have h0d:down L 0=true:=rfl
   have hcand:∀ j,renN (rotL j L)=cand L j:=fun _=>rfl
   simp only [hcand] at h140
   have hcl:∀ j,(cand L j).length=ls.length:=fun j=>by rw [cand_length,hLl]
   have hnl:=fun j=>nrun_len hLl hlen j
   have h00:lsV (nrun L z0 0)=lsV z0:=rfl
   have hzr:=fun j q=>ren_lsV q (nrun L z0 j)
   have hds:∀ j,j<ls.length→down L (j+1)=if isP (at' L j) then !down L j else down L j:=fun j hj=>down_succ (by omega)
   have hcr:∀ j q,renLL q ((cand L j).map rowL)=(cand L j).map rowL:=fun j q=>renLL_closed q _ (closed_rows _)
   have hrows:=fun q=>hrr q
   generalize ls.map rowL=rows at *
   generalize L.map rowL=LR at *
   refine wZ_loop (α:=Nat) (fun j=>[(25,.int .i64 j),(24,.int .i64 ls.length),(23,.imm LR),(6,.bool (down L j)),(5,.imm LR),(19,.int .i64 i),(18,.int .i64 2),(17,.sl 8 0 2),(3,lsV (nrun L z0 j)),(2,.ptr 7 0 0),(0,.ptr 1 0 0)])
    (fun _=>⟨[(1,.cells 7 [[.int .i64 (F:Int),.imm rows,.sl 3 0 ls.length,.sl 5 0 m,.sl 4 0 ls.length,.map 6,.sl 2 0 (F+1)]]),(2,.cells 1 (nums (cnts F ls))),(3,.cells 1 B),(4,.cells 1 C),(5,.cells 1 A),(6,.map (mkE 0 E) E.length),(7,.cells 2 [[.int .i64 0,.nilSl]]),(8,.cells 1 BK)],9⟩)
    (fun j=>ls.length - j) (fun j=>j≤ls.length) 0 [] (by simp [hrows,hrA,hrB,hrC,ren_mkE,ren_nums,hBr,hLr,h0d,h00,ren_lsV]) (by simp) ?_
   intro j hj N2 hN2
   try simp only at hj hN2 ⊢
   by_cases hjl:j<ls.length
   · have hg:=hgL j (by omega)
     obtain⟨hgl,hg2⟩:=getE hg
     have hwj:IntKind.i64.wrap ((j:Int)+1)=(j:Int)+1:=wrap64 (by omega) (by omega)
     have hdj:=hds j hjl
     have hN2':=hN2 (j+1) []
     have hst:nrun L z0 (j+1)=nstep L j (nrun L z0 j):=rfl
     rw [hst,hdj] at hN2'
     have hnlj:=hnl j
     have hzrj:=hzr j
     generalize nrun L z0 j=z at *
     unfold nstep at hN2'
     by_cases hk:(at' L j).k=1
     · have hP:isP (at' L j)=true:=by simp [isP,hk]
       rw [hP] at hN2'
       cases hd:down L j with
       | false=>
        rw [hd] at hN2'
        simp [hjl,hg,hg2,hLR,rowL,hk,hwj]
        simp only [Bool.true_and,Bool.false_eq_true,if_false,if_true,Bool.not_false] at hN2'
        exact hN2' _ _ (by omega) (by omega) (by simp [hrows,hrA,hrB,hrC,ren_mkE,ren_nums,hBr,hLr,hzrj])
       | true=>
        rw [hd] at hN2'
        have h56':=h56 j (by omega)
        have h140':=h140 j
        have hcrj:=hcr j
        cases z with
        | none=>
         simp only [Bool.and_self,if_true,lsV,Bool.not_true] at hN2'
         generalize (cand L j).map rowL=C1 at *
         simp [hjl,hg,hg2,hLR,rowL,hk,hwj,lsV]
         refine SC_pure h56' ?_
         simp
         refine SC_pure h140' ?_
         simp [nil_nil,hwj]
         exact hN2' _ _ (by omega) (by omega) (by simp [hrows,hrA,hrB,hrC,ren_mkE,ren_nums,hBr,hLr,hcrj])
        | some w=>
         have hwl:w.length=ls.length:=hnlj w rfl
         have h141:=c141 (cand L j) w (by rw [hcl,hwl]; exact Nat.le_refl _) (by omega)
         have hwr:∀ q,renLL q (w.map rowL)=w.map rowL:=fun q=>renLL_closed q _ (closed_rows w)
         have hni:=nil_imm (R:=w.map rowL) (by
          intro e
          have:=congrArg List.length e
          rw [List.length_map,List.length_nil] at this
          omega)
         simp only [Bool.and_self,if_true,Bool.not_true] at hN2'
         cases hlw:ltLs (cand L j) w with
         | true=>
          rw [hlw] at hN2' h141
          simp only [if_true,lsV] at hN2'
          generalize (cand L j).map rowL=C1 at *
          rw [show lsV (some w)=.imm (w.map rowL) from rfl]
          generalize w.map rowL=W at *
          simp [hjl,hg,hg2,hLR,rowL,hk,hwj,lsV]
          refine SC_pure h56' ?_
          simp
          refine SC_pure h140' ?_
          simp [hni]
          refine SC_pure h141 ?_
          simp [hwj]
          exact hN2' _ _ (by omega) (by omega) (by simp [hrows,hrA,hrB,hrC,ren_mkE,ren_nums,hBr,hLr,hcrj])
         | false=>
          rw [hlw] at hN2' h141
          simp only [Bool.false_eq_true,if_false,lsV] at hN2'
          generalize (cand L j).map rowL=C1 at *
          rw [show lsV (some w)=.imm (w.map rowL) from rfl]
          generalize w.map rowL=W at *
          simp [hjl,hg,hg2,hLR,rowL,hk,hwj,lsV]
          refine SC_pure h56' ?_
          simp
          refine SC_pure h140' ?_
          simp [hni]
          refine SC_pure h141 ?_
          simp [hwj]
          exact hN2' _ _ (by omega) (by omega) (by simp [hrows,hrA,hrB,hrC,ren_mkE,ren_nums,hBr,hLr,hwr])
     · have hP:isP (at' L j)=false:=by simp [isP,hk]
       rw [hP] at hN2'
       simp only [Bool.false_and,Bool.false_eq_true,if_false] at hN2'
       simp [hjl,hg,hg2,hLR,rowL,hk,hwj]
       exact hN2' _ _ (by omega) (by omega) (by simp [hrows,hrA,hrB,hrC,ren_mkE,ren_nums,hBr,hLr,hzrj])
   · have hje:j=ls.length:=by omega
     rw [hje]
     simp [hw]
     exact hN' [] _ _ (by omega) (by omega) (by simp [hrows,hrA,hrB,hrC,ren_mkE,ren_nums,hBr,ren_lsV])
 · have hie:i=2:=by omega
   subst hie
   rw [hl2]
   have hrz:=fun q=>ren_lsV q (normO ls)
   have hz1:=cells_lsV (normO ls)
   have hz2:=one_lsV (normO ls)
   generalize lsV (normO ls)=Z at *
   simp [hz1,hz2]
   exact endK hK' [] (by simp [hrr,hrA,hrB,hrC,ren_mkE,ren_nums,hrz])
end Go.Known
