/- Part 49 of the proof: Tx, Ty. -/
import Derived.Test.YtipeejpafgnjdaaGreatDoorE46
set_option linter.all false
section
namespace Go.Known
open Go Go.AE Go.Proofs
open Go.Plain
theorem Z2w {get:Nat→Option ABlk} {S:List Nat} {b k len:Nat} {els:List (List AVal)} (hb:memN b S=true) (hg:get b=some (.cells k els)) (hl:len≤els.length) (hs:∀ row,row∈els.take len → ∀ x,x∈row→Zaj (Zir get S) 4 x=some x):fzV get S (.sl b 0 len)=.imm (els.take len):=by
 have h:Zir get S b=some (.cells k els):=by unfold Zir; rw [hb]; exact hg
 have h1:Nat.ble (0+len) els.length=true:=by rw [Nat.zero_add]; exact Nat.ble_eq_true_of_le hl
 unfold fzV
 rw [Zaj]
 simp only [h,h1,cond_true,List.drop_zero,Zfi hs]
theorem fz_fr (get:Nat→Option ABlk) (fs:List Fg) (re lo f e:Int) (ls:List Lt):Zaj get 5 (.tuple [frV fs re lo,cV f ls,.int .i64 e])=some (.tuple [frV fs re lo,cV f ls,.int .i64 e]):=by
 have h1:=Zff (get:=get) (n:=2) (Zkh (get:=get) (n:=1) fs)
 have h2:=Zff (get:=get) (n:=2) (Zdr (get:=get) (n:=1) ls)
 unfold frV cV
 rw [Zaj]
 simp only [mapO]
 rw [Zaj]
 simp only [mapO]
 rw [h1,Zaj]
 simp only [mapO]
 rw [h2]
 rfl
end Go.Known
end
section
namespace Go.Known
open Go Go.AE Go.Proofs
open Go.Plain
structure Ow where
 f:Int
 n:Int
 l:Nat
 r:Nat
def orow (x:Ow):List AVal:=[.int .i64 x.f,.int .i64 x.n,.int .i64 x.l,.int .i64 x.r]
theorem Zj2:∀ (l:List Ow),Zap (l.map orow)=true
 | []=>rfl
 | p :: r=>by
  have:=Zj2 r
  simp only [List.map_cons,Zap,orow,Zae,AVal.closed,Bool.and_true,Bool.true_and] at this ⊢
  exact this
theorem Zuo {l:List Ow} {i:Nat} {x:Ow} (h:l[i]? = some x):(l.map orow)[i]? = some (orow x):=by rw [List.getElem?_map,h]; rfl
def fgs (ls:List Lt):Nat→List Int
 | 0=>[]
 | i+1=>fgs ls i++List.replicate (cnL ls ((i:Int)+1)) ((i:Int)+1)
theorem Zyh {ls:List Lt} (h:ls.length≤1000):∀ i,(fgs ls i).length≤i*1000
 | 0=>Nat.le_refl _
 | i+1=>by
  have h1:=Zyh h i
  have h2:=Zrw (ls:=ls) (f:=(i:Int)+1)
  rw [fgs,List.length_append,List.length_replicate,Nat.succ_mul]
  exact Nat.add_le_add h1 (Nat.le_trans h2 h)
def OwnI (ls:List Lt) (f:Int) (i:Nat) (own:List Ow):Prop:=i≤ls.length∧own.length=(lpL ls f i).length ∧ ∀ x,x∈own→x.f=f∧x.l<ls.length
theorem Zz2 {ls:List Lt} {f:Int} {i y:Nat} (hy:(i+1) % ls.length=y) (hP:PosI ls i) (hk:(at' ls i).k=1) (hd:down ls i=true) :
 (isLp ls f i=true∧(((at' ls i).g=f∧(at' ls y).g=f - 1∧lpA ls f i=(y,i))∨((at' ls i).g=f - 1∧(at' ls y).g=f∧lpA ls f i=(i,y)))) ∨
 (isLp ls f i=false∧((at' ls i).g=f → ¬(at' ls y).g=f - 1)∧((at' ls i).g=f - 1 → ¬(at' ls y).g=f)):=by
 have hnx:nxL ls i=at' ls y:=by unfold nxL; rw [hy]
 have h1:=hP hk hd
 rw [hnx] at h1
 have hm:mxg ls i=if (at' ls i).g<(at' ls y).g then (at' ls y).g else (at' ls i).g:=by unfold mxg; rw [hnx]
 by_cases h:mxg ls i=f
 · refine .inl ⟨by unfold isLp; simp [hk,hd,h],?_⟩
   rw [hm] at h
   by_cases h2:(at' ls i).g<(at' ls y).g
   · rw [if_pos h2] at h
     refine .inr ⟨by omega,h,?_⟩
     unfold lpA
     rw [if_neg (by omega),hy]
   · rw [if_neg h2] at h
     refine .inl ⟨h,by omega,?_⟩
     unfold lpA
     rw [if_pos h,hy]
 · refine .inr ⟨by unfold isLp; simp [h],?_,?_⟩
   · intro h2 h3
     apply h
     rw [hm,if_neg (by omega)]
     exact h2
   · intro h2 h3
     apply h
     rw [hm,if_pos (by omega)]
     exact h3
set_option maxRecDepth 100000 in
set_option maxHeartbeats 16000000 in
theorem cROf (F:Nat) (ls:List Lt) (hF:F≤1000) (h:ls.length≤1000) (hP:PosP ls) (hq:∀ l,l∈ls→l.k=1→0≤l.g∧l.g≤40) :
 Ctr Tryz.prog 116 [cV F ls] ⟨[],1⟩ fun r m=>∃ O:List Ow,O.map (·.f)=fgs ls F∧r=slV 1 (O.map orow)∧m=⟨blV 1 4 (O.map orow) [],2⟩:=by
 refine Zhq hm Tryz.func116 cjROf rfl rfl fun K hK=>?_
 have hrr:∀ q,Zam q (ls.map rowL)=ls.map rowL:=fun q=>Zaa q _ (Zab ls)
 have hrO:∀ (O:List Ow) q,Zam q (O.map orow)=O.map orow:=fun O q=>Zaa q _ (Zj2 O)
 have hlen:(ls.map rowL).length=ls.length:=List.length_map ..
 have hg:=fun i hi=>Ze1 ls (i:=i) hi
 have hdn:=fun i hi=>Z2c F ls i hi h
 have hwr:=fun i h0 hi=>Z2s F ls i h0 h hi
 unfold cV at *
 generalize ls.map rowL=rows at *
 simp
 refine Zay (α:=Nat×List Ow) (fun a=>[(4,.int .i64 ((a.1:Int)+1)),(3,slV 2 (a.2.map orow)),(1,.ptr 1 0 0)])
  (fun a=>⟨(1,.cells 2 [[.int .i64 F,.imm rows]]) :: blV 2 4 (a.2.map orow) [],3⟩) (fun a=>F - a.1) (fun a=>a.1≤F∧a.2.map (·.f)=fgs ls a.1) (0,[]) [] (by simp [hrr]) (by simp [fgs]) ?_
 rintro⟨i,O⟩ ⟨hi,hO⟩ N hN
 simp only at hi hO
 try simp only
 have hrOO:=hrO O
 by_cases hlt:i<F
 · have hc0:(i:Int)+1≤(F:Int):=by omega
   have hgt:¬(F:Int)<(i:Int)+1:=by omega
   have hw1:IntKind.i64.wrap ((i:Int)+1+1)=(i:Int)+1+1:=Zad (by omega) (by omega)
   have hw0:IntKind.i64.wrap (i:Int)=(i:Int):=Zad (by omega) (by omega)
   simp [hc0,hgt,hw1]
   refine Zay (α:=Nat×List Ow) (fun a=>[(6,.int .i64 a.1),(5,slV 3 (a.2.map orow)),(4,.int .i64 ((i:Int)+1)),(3,slV 2 (O.map orow)),(1,.ptr 1 0 0)])
    (fun a=>⟨(1,.cells 2 [[.int .i64 F,.imm rows]]) :: blV 2 4 (O.map orow) (blV 3 4 (a.2.map orow) []),4⟩) (fun a=>ls.length - a.1) (fun a=>OwnI ls ((i:Int)+1) a.1 a.2) (0,[]) [] (by simp +contextual [hrr,hrOO]) ⟨by simp,by simp [Zuq],by simp⟩ ?_
   rintro⟨k,own⟩ ⟨hk0,hk1,hk2⟩ N' hN'
   simp only at hk0 hk1 hk2
   try simp only
   have hrw:=hrO own
   by_cases hkl:k<ls.length
   · have hwk:IntKind.i64.wrap ((k:Int)+1)=(k:Int)+1:=Zad (by omega) (by omega)
     have hgk:=hg k hkl
     obtain⟨hgkl,hgk2⟩:=getE hgk
     have h0:ls≠[]:=fun e=>by subst e; simp at hkl
     have hd:=hdn k hkl
     have hw:=hwr (k+1) h0 (by omega)
     rw [Int.natCast_add] at hw
     obtain⟨y,hy⟩:∃ y:Nat,(k+1) % ls.length=y:=⟨_,rfl⟩
     rw [hy] at hw
     have hyl:y<ls.length:=by rw [← hy]; exact Nat.mod_lt _ (by omega)
     have hgy:=hg y hyl
     obtain⟨hgyl,hgy2⟩:=getE hgy
     have hN2:=hN' (k+1,own)
     have hls:=Zuf (ls:=ls) (f:=(i:Int)+1) (n:=k)
     have stay:isLp ls ((i:Int)+1) k=false→OwnI ls ((i:Int)+1) (k+1) own:=fun e=>⟨by omega,by rw [hls,if_neg (by simp [e]),hk1],hk2⟩
     by_cases hkd:(at' ls k).k=1∧down ls k=true
     · obtain⟨hkk,hdt⟩:=hkd
       rw [decide_eq_true hkk,hdt,Bool.true_and] at hd
       simp [hlen,hkl,hwk]
       refine Zai hd ?_
       simp [hwk]
       refine Zai hw ?_
       rcases Zz2 (f:=(i:Int)+1) hy (hP k hkl) hkk hdt with⟨hlp,hAC⟩ | ⟨hlp,hn1,hn2⟩
       · obtain⟨L,R,hLR,hL,hAC'⟩:∃ L R:Nat,lpA ls ((i:Int)+1) k=(L,R)∧L<ls.length∧(((at' ls k).g=(i:Int)+1∧(at' ls y).g=(i:Int)∧L=y∧R=k)∨((at' ls k).g=(i:Int)∧(at' ls y).g=(i:Int)+1∧L=k∧R=y)):=by
          rcases hAC with⟨q1,q2,q3⟩ | ⟨q1,q2,q3⟩
          · exact⟨y,k,q3,hyl,.inl ⟨q1,by omega,rfl,rfl⟩⟩
          · exact⟨k,y,q3,hkl,.inr ⟨by omega,q2,rfl,rfl⟩⟩
         have hgL:=hg L hL
         obtain⟨hgLl,hgL2⟩:=getE hgL
         have hins:∀ j,j≤own.length→OwnI ls ((i:Int)+1) (k+1) (own.take j++⟨(i:Int)+1,0,L,R⟩ :: own.drop j):=fun j hj=>by
          refine⟨by omega,?_,fun x hx=>?_⟩
          · rw [hls,if_pos hlp,List.length_append,List.length_append,List.length_take,List.length_cons,List.length_drop,← hk1,List.length_singleton]
            omega
          · rw [List.mem_append,List.mem_cons] at hx
            rcases hx with hx | rfl | hx
            · exact hk2 x (List.mem_of_mem_take hx)
            · exact⟨rfl,hL⟩
            · exact hk2 x (List.mem_of_mem_drop hx)
         have hN3:=fun j=>hN' (k+1,own.take j++⟨(i:Int)+1,0,L,R⟩ :: own.drop j)
         have hol:own.length≤1000:=by have:=Zyr (ls:=ls) (f:=(i:Int)+1) (n:=k); omega
         clear hN2 stay
         have e3:¬(i:Int)+1=(i:Int):=by omega
         have e3':¬(i:Int)=(i:Int)+1:=by omega
         rcases hAC' with⟨q1,q2,q3,q4⟩ | ⟨q1,q2,q3,q4⟩
         all_goals
          unfold rowL at *
          simp [hlen,hkl,hyl,hgk,hgk2,hgy,hgy2,hw0,q1,q2,e3,e3',hwk,FT.indep]
          refine Zay (α:=Nat) (fun j=>[(11,.int .i64 j),(10,.ptr 6 0 0),(6,.int .i64 k),(5,slV 3 (own.map orow)),(4,.int .i64 ((i:Int)+1)),(3,slV 2 (O.map orow)),(1,.ptr 1 0 0)])
           (fun j=>⟨(6,.cells 4 [[.int .i64 ((i:Int)+1),.int .i64 0,.int .i64 L,.int .i64 R]]) :: (1,.cells 2 [[.int .i64 F,.imm rows]]) :: blV 2 4 (O.map orow) (blV 3 4 (own.map orow) []),7⟩)
           (fun j=>own.length - j) (fun j=>j≤own.length) 0 [(6,36)] (by simp +contextual [hrr,hrOO,hrw,q3,q4]) (by simp) ?_
          intro j hj M hM
          try simp only at hj hM ⊢
          have hown:(own.take j++(⟨(i:Int)+1,0,L,R⟩:Ow) :: own.drop j).map orow=(own.map orow).take j++[AVal.int .i64 ((i:Int)+1),.int .i64 0,.int .i64 L,.int .i64 R] :: (own.map orow).drop j:=by
           simp [orow,List.map_take,List.map_drop]
          have hownl:((own.take j++(⟨(i:Int)+1,0,L,R⟩:Ow) :: own.drop j).map orow).length=own.length+1:=by simp; omega
          have hN4:=hN3 j
          simp only at hN4
          have hnew:(own.take j++(⟨(i:Int)+1,0,L,R⟩:Ow) :: own.drop j).map orow≠[]:=by simp
          have hV3:slV 3 ((own.take j++(⟨(i:Int)+1,0,L,R⟩:Ow) :: own.drop j).map orow)=.sl 3 0 (own.length+1):=by rw [Zmi hnew,hownl]
          have hB3:blV 3 4 ((own.take j++(⟨(i:Int)+1,0,L,R⟩:Ow) :: own.drop j).map orow) []=[(3,.cells 4 ((own.map orow).take j++[AVal.int .i64 ((i:Int)+1),.int .i64 0,.int .i64 L,.int .i64 R] :: (own.map orow).drop j))]:=by rw [Zko hnew,hown]
          rw [hV3,hB3] at hN4
          have hinj:=hins j hj
          have hmin:min j own.length=j:=Nat.min_eq_left hj
          have hsum:j+1+(own.length - j)=own.length+1:=by omega
          have hrT:∀ q,Zam q ((own.map orow).take j)=(own.map orow).take j:=fun q=>by rw [Zco,List.map_take,← Zco,hrw]
          have hrD:∀ q,Zam q ((own.map orow).drop j)=(own.map orow).drop j:=fun q=>by rw [Zco,List.map_drop,← Zco,hrw]
          clear hN3 hins
          by_cases hjl:j<own.length
          · obtain⟨x,hx⟩:∃ x,own[j]? = some x:=⟨own[j],List.getElem?_eq_getElem hjl⟩
            have hxm:=hk2 x (List.mem_of_getElem? hx)
            have hno:¬own=[]:=fun e=>by subst e; simp at hjl
            obtain⟨hxl,hxe⟩:=getE hx
            have hgx:=hg x.l hxm.2
            unfold rowL at hgx
            obtain⟨hgxl,hgx2⟩:=getE hgx
            have hwj:IntKind.i64.wrap ((j:Int)+1)=(j:Int)+1:=Zad (by omega) (by omega)
            by_cases hr:(at' ls x.l).r<(at' ls L).r
            · simp [hno,hx,hxe,orow,hjl,hlen,hxm.2,hgx,hgx2,hL,hgL,hgL2,hr,hwj]
              exact hM (j+1) [] _ _ (by omega) (by omega) (by simp +contextual [hrr,hrOO,hrw])
            · have e1:slV 3 (own.map orow)=.sl 3 0 own.length:=by rw [Zmi (by simpa using hno),List.length_map]
              have e2:blV 3 4 (own.map orow) []=[(3,.cells 4 (own.map orow))]:=Zko (by simpa using hno)
              have hdn0:¬own.length≤j:=by omega
              have hjle:j≤own.length:=hj
              have a1:¬1+own.length≤1:=by omega
              have a2:1+own.length≤1048576:=by omega
              have a3:(own.map orow).take own.length=own.map orow:=List.take_of_length_le (by simp)
              have a4:j≤1048576:=by omega
              have a5:j+1≤1048576:=by omega
              have a6:¬j+1+(own.length - j)≤j+1:=by omega
              have a7:j+1+(own.length - j)≤1048576:=by omega
              have a8:¬j+1≤j:=by omega
              have a9:((own.map orow).drop j).take (own.length - j)=(own.map orow).drop j:=List.take_of_length_le (by simp)
              have b1:1+own.length=own.length+1:=by omega
              have b2:own.length≤1048575:=by omega
              have b3:j≤1048575:=by omega
              have b4:j+(own.length - j)≤own.length:=by omega
              have b5:((own.map orow).take j++[[AVal.int .i64 ((i:Int)+1),.int .i64 0,.int .i64 L,.int .i64 R]]).take (j+1)=(own.map orow).take j++[[AVal.int .i64 ((i:Int)+1),.int .i64 0,.int .i64 L,.int .i64 R]]:=List.take_of_length_le (by simp; omega)
              by_cases hj0:j=0
              · subst hj0
                simp [hno,hx,hxe,orow,hjl,hlen,hxm.2,hgx,hgx2,hL,hgL,hgL2,hr,e1,e2,hwk,FT.indep,Zan,a1,a2,a3,b1,b2]
                exact hN4 [(3,41)] _ _ (by omega) hinj (by simp +contextual [hrr,hrOO,hrw])
              · simp [hno,hx,hxe,orow,hjl,hlen,hxm.2,hgx,hgx2,hL,hgL,hgL2,hr,e1,e2,hj0,hjle,hmin,hwk,hdn0,hol,FT.indep,Zan,a4,a5,a6,a7,a8,a9,b3,b4,b5,Zsu,List.take_take]
                exact hN4 [(3,41)] _ _ (by omega) hinj (by simp +contextual [hrr,hrOO,hrw,hsum,hrT,hrD])
          · have hje:j=own.length:=by omega
            subst hje
            by_cases hno:own=[]
            · subst hno
              simp [hwk,FT.indep,Zan]
              exact hN4 [(3,37)] _ _ (by omega) hinj (by simp +contextual [hrr,hrOO,hrw])
            · have e1:slV 3 (own.map orow)=.sl 3 0 own.length:=by rw [Zmi (by simpa using hno),List.length_map]
              have e2:blV 3 4 (own.map orow) []=[(3,.cells 4 (own.map orow))]:=Zko (by simpa using hno)
              have hol0:¬own.length=0:=fun e=>hno (List.length_eq_zero_iff.1 e)
              have a4:own.length≤1048576:=by omega
              have a5:own.length+1≤1048576:=by omega
              have a8:¬own.length+1≤own.length:=by omega
              have b2:own.length≤1048575:=by omega
              have a3:(own.map orow).take own.length=own.map orow:=List.take_of_length_le (by simp)
              have b5:(own.map orow++[[AVal.int .i64 ((i:Int)+1),.int .i64 0,.int .i64 L,.int .i64 R]]).take (own.length+1)=own.map orow++[[AVal.int .i64 ((i:Int)+1),.int .i64 0,.int .i64 L,.int .i64 R]]:=List.take_of_length_le (by simp)
              have b6:(own.map orow).drop own.length=[]:=List.drop_eq_nil_of_le (by simp)
              have b7:(own.map orow++[[AVal.int .i64 ((i:Int)+1),.int .i64 0,.int .i64 L,.int .i64 R]]).drop (own.length+1)=[]:=List.drop_eq_nil_of_le (by simp)
              rw [a3,b6] at hN4
              simp [hno,orow,hlen,e1,e2,hol0,hwk,hol,FT.indep,Zan,a3,a4,a5,a8,b2,b5,b6,b7,Zsu,List.take_take]
              exact hN4 [(3,37)] _ _ (by omega) hinj (by simp +contextual [hrr,hrOO,hrw])
       · have hst:=stay hlp
         by_cases e1:(at' ls k).g=(i:Int)+1
         · have e2:=hn1 e1
           rw [show (i:Int)+1 - 1=(i:Int) by omega] at e2
           have e3:¬(i:Int)+1=(i:Int):=by omega
           unfold rowL at *
           simp [hlen,hkl,hyl,hgk,hgk2,hgy,hgy2,hw0,e1,e2,e3,hwk,FT.indep]
           exact hN2 [] _ _ (by omega) hst (by simp +contextual [hrr,hrOO,hrw])
         · by_cases e4:(at' ls k).g=(i:Int)
           · have e5:=hn2 (by omega)
             have e3:¬(i:Int)=(i:Int)+1:=by omega
             unfold rowL at *
             simp [hlen,hkl,hyl,hgk,hgk2,hgy,hgy2,hw0,e3,e4,e5,hwk,FT.indep]
             exact hN2 [] _ _ (by omega) hst (by simp +contextual [hrr,hrOO,hrw])
           · unfold rowL at *
             simp [hlen,hkl,hyl,hgk,hgk2,hgy,hgy2,hw0,e1,e4,hwk,FT.indep]
             exact hN2 [] _ _ (by omega) hst (by simp +contextual [hrr,hrOO,hrw])
     · have hf:(decide ((at' ls k).k=1)&&down ls k)=false:=by
        cases hdd:down ls k with
        | false=>simp
        | true=>
         have:¬(at' ls k).k=1:=fun e=>hkd ⟨e,hdd⟩
         simp [this]
       have hlp:isLp ls ((i:Int)+1) k=false:=by
        unfold isLp
        rw [hf]; rfl
       rw [hf] at hd
       have hst:=stay hlp
       simp [hlen,hkl,hwk]
       refine Zai hd ?_
       simp [hwk]
       exact hN2 [] _ _ (by omega) hst (by simp +contextual [hrr,hrOO,hrw])
   · have hke:k=ls.length:=by omega
     subst hke
     have hcn:own.length=cnL ls ((i:Int)+1):=hk1
     have hcl:cnL ls ((i:Int)+1)≤1000:=by have:=Zrw (ls:=ls) (f:=(i:Int)+1); omega
     clear hN' hk1 hdn hwr hg
     simp [hlen]
     refine Zay (α:=Nat×List Ow×List Ow) (fun a=>[(12,.int .i64 a.1),(5,slV 3 (a.2.1.map orow)),(4,.int .i64 ((i:Int)+1)),(3,slV 2 (a.2.2.map orow)),(1,.ptr 1 0 0)])
      (fun a=>⟨(1,.cells 2 [[.int .i64 F,.imm rows]]) :: blV 2 4 (a.2.2.map orow) (blV 3 4 (a.2.1.map orow) []),4⟩) (fun a=>own.length - a.1)
      (fun a=>a.1≤own.length∧a.2.1.length=own.length∧(∀ x,x∈a.2.1→x.f=(i:Int)+1)∧a.2.2.map (·.f)=fgs ls i++List.replicate a.1 ((i:Int)+1)) (0,own,O) [] (by simp +contextual [hrr,hrOO,hrw]) ⟨by simp,rfl,fun x hx=>(hk2 x hx).1,by simp [hO]⟩ ?_
     rintro⟨a,ow,O2⟩ ⟨ha,hal,haf,haO⟩ M hM
     simp only at ha hal haf haO
     try simp only
     have hrw2:=hrO ow
     have hrO2:=hrO O2
     have hO2l:O2.length≤1000000:=by
      have h1:=congrArg List.length haO
      rw [List.length_map,List.length_append,List.length_replicate] at h1
      have h2:=Zyh (ls:=ls) h i
      have h3:i*1000≤999*1000:=Nat.mul_le_mul_right _ (by omega)
      omega
     by_cases hlt2:a<own.length
     · obtain⟨x,hx⟩:∃ x,ow[a]? = some x:=⟨ow[a],List.getElem?_eq_getElem (by omega)⟩
       have hxf:=haf x (List.mem_of_getElem? hx)
       have hno:¬ow=[]:=fun e=>by subst e; simp at hx
       have hwa:IntKind.i64.wrap ((a:Int)+1)=(a:Int)+1:=Zad (by omega) (by omega)
       have e1:slV 3 (ow.map orow)=.sl 3 0 own.length:=by rw [Zmi (by simpa using hno),List.length_map,hal]
       have e2:blV 3 4 (ow.map orow) []=[(3,.cells 4 (ow.map orow))]:=Zko (by simpa using hno)
       have hg1:=Zuo hx
       have hset:(ow.map orow).set a [.int .i64 x.f,.int .i64 ((a:Int)+1),.int .i64 x.l,.int .i64 x.r]=(ow.set a ⟨x.f,(a:Int)+1,x.l,x.r⟩).map orow:=by
        rw [List.map_set]; rfl
       have hg2:((ow.set a ⟨x.f,(a:Int)+1,x.l,x.r⟩).map orow)[a]? = some [.int .i64 x.f,.int .i64 ((a:Int)+1),.int .i64 x.l,.int .i64 x.r]:=by
        rw [List.getElem?_map,List.getElem?_set_self (by omega)]; rfl
       have hM2:=hM (a+1,ow.set a ⟨x.f,(a:Int)+1,x.l,x.r⟩,O2++[⟨x.f,(a:Int)+1,x.l,x.r⟩])
       have hno2:(ow.set a ⟨x.f,(a:Int)+1,x.l,x.r⟩).map orow≠[]:=by simpa using hno
       have e3:slV 3 ((ow.set a ⟨x.f,(a:Int)+1,x.l,x.r⟩).map orow)=.sl 3 0 own.length:=by rw [Zmi hno2,List.length_map,List.length_set,hal]
       have e4:blV 3 4 ((ow.set a ⟨x.f,(a:Int)+1,x.l,x.r⟩).map orow) []=[(3,.cells 4 ((ow.set a ⟨x.f,(a:Int)+1,x.l,x.r⟩).map orow))]:=Zko hno2
       have hinv:a+1≤own.length∧(ow.set a ⟨x.f,(a:Int)+1,x.l,x.r⟩).length=own.length∧(∀ z,z∈ow.set a ⟨x.f,(a:Int)+1,x.l,x.r⟩→z.f=(i:Int)+1)∧(O2++[(⟨x.f,(a:Int)+1,x.l,x.r⟩:Ow)]).map (·.f)=fgs ls i++List.replicate (a+1) ((i:Int)+1):=by
        refine⟨by omega,by rw [List.length_set,hal],fun z hz=>?_,?_⟩
        · rcases List.mem_or_eq_of_mem_set hz with hz | hz
          · exact haf z hz
          · rw [hz]; exact hxf
        · rw [List.map_append,haO,List.append_assoc]
          congr 1
          rw [List.replicate_succ']
          simp [hxf]
       simp only at hM2
       rw [e3,e4] at hM2
       have hrw3:=hrO (ow.set a ⟨x.f,(a:Int)+1,x.l,x.r⟩)
       have hml:(ow.map orow).length=own.length:=by rw [List.length_map,hal]
       have hml2:((ow.set a ⟨x.f,(a:Int)+1,x.l,x.r⟩).map orow).length=own.length:=by rw [List.length_map,List.length_set,hal]
       rw [e1,e2]
       clear e1 e2 e3 e4 hno2 hM
       generalize (ow.set a ⟨x.f,(a:Int)+1,x.l,x.r⟩).map orow=T2 at *
       generalize ow.map orow=T at *
       unfold orow at hg1
       obtain⟨hg1l,hg12⟩:=getE hg1
       obtain⟨hg2l,hg22⟩:=getE hg2
       have hO2l':O2.length≤1048575:=by omega
       simp [hlt2,hml,hml2,hg1,hg12,hwa,hset,hg2,hg22,hO2l']
       exact hM2 [(2,21)] _ _ (by omega) hinv (by simp +contextual [hrr,hrO2,hrw3,orow])
     · have hae:a=own.length:=by omega
       subst hae
       have hN2:=hN (i+1,O2)
       simp [hlt2,hal,hw1]
       exact hN2 [] _ _ (by omega) ⟨by omega,by rw [haO,hcn]; rfl⟩ (by simp +contextual [hrr,hrO2])
 · have hie:i=F:=by omega
   subst hie
   have hgt:¬(i:Int)+1≤(i:Int):=by omega
   have hK':=hK _ _ ⟨O,hO,rfl,rfl⟩
   simp [hgt]
   exact endK hK' [(1,2)] (by simp +contextual [hrOO])
end Go.Known
end
