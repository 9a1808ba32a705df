/- Part 50 of the proof: Wm, Wn, Wo. -/
import Derived.Test.YtipeejpafgnjdaaGreatDoorF40
import Derived.Test.YtipeejpafgnjdaaGreatDoorF49
set_option linter.all false
section
namespace Go.Known
open Go Go.AE Go.Proofs
open Go.Plain
def lp50:ACode:=(sr [cL 32 31 30]
 (.seq (.cond (tZ 32) .skip
 (.exit 0))
 (.seq (.block 1 (sr [ix 33 3 29 31,lw 34 3 33,oZ 11 (.alloc [(.int .i64 0),(.bool false),(.int .i64 0)]),so 3 11 34]
 (sr [lw 36 2 8,lw 37 2 5,ca2 38 127 36 37,mv 35 38,ex 39 35 0,ex 40 35 1,oZ 12 (.alloc [(.int .i64 0),.nilSl]),so 2 12 39,mv 13 40]
 (.seq (sr [mv 41 13,cNk 42 41 0]
 (.cond (tZ 42) (sr [mk 6 2]
 .ret)
 .skip))
 (sr [fa 43 0 7,lo 44 43,fa 45 0 5,lo 46 45,lw 47 3 11,oZ 48 (.mkSl 3 1 [(.int .i64 0),(.bool false),(.int .i64 0)] [(0,(tZ 47))]),ca3 49 128 44 46 48,fa 50 0 7,so 1 50 49]
 (.region true [lw 51 2 12,fa 52 0 5,lo 53 52,aDk 54 53 1,oZ 55 (.build [(.int .i64 0),(.int .i64 0)] [(0,1,(tZ 54))]),⟨none,.store 2 (tZ 8) (tZ 51),none,[2]⟩,so 2 5 55]))))))
 (rf [aDk 56 31 1,mv 31 56]))))
def rs50:ACode:=(.seq (sr [mv 57 9,cLk 58 57 0,mv 59 58,gZ 60 59 false (.load (some 3) (tZ 7)),gZ 61 59 false (.call (.fn 109) [(tZ 60)]),gZ 62 59 false (.un .not (tZ 61)),pk1 63 59 62]
 (.cond (tZ 63) (sr [mk 6 2]
 .ret)
 .skip))
 (.seq (sr [lw 64 3 7,lw 65 2 8,ca2 66 110 64 65,no 67 66]
 (.cond (tZ 67) (sr [mk 6 4]
 .ret)
 .skip))
 (.seq (.region true [mv 68 0,mv 69 0,lw 70 3 7,lw 71 2 8,nc 72 68,fa 73 0 72,⟨none,.store 3 (tZ 73) (tZ 70),none,[3]⟩,nc 74 69,fa 75 3 74,so 2 75 71])
 (sr [mk 6 0]
 .ret))))
def enV (k:Bool) (n:Nat):AVal:=if k=true then .sl 4 0 n else .nilSl
def enM (k:Bool) (fs gs:List Fg) (re lo g a:Int) (ls:List Lt) (d:Nat):SMem:=
 ⟨(if k=true then [(4,.cells 3 ((enF fs gs g.toNat d).map rowG))] else [])++[(5,.cells 3 [[enV k (fs.length+d),.int .i64 re,.int .i64 lo]]),(6,.cells 2 [[.int .i64 ((fs.length:Int)+d),.imm ((enD g a ls d).map rowL)]]),
  (1,stN re lo fs.length ls),(3,.cells 2 [[.int .i64 (g+d),.int .i64 (lfA a d)]])],7⟩
def enS (gs:List Fg) (g:Int) (d:Nat):Env:=[(31,.int .i64 d),(30,.int .i64 gs.length),(29,.imm (gs.map rowG)),(9,.int .i64 g),(8,.ptr 6 0 0),(7,.ptr 5 0 0),(5,.ptr 3 0 0),(0,.ptr 1 0 0)]
set_option maxRecDepth 100000 in
set_option maxHeartbeats 16000000 in
theorem tail50 (fs gs:List Fg) (re lo g a:Int) (ls:List Lt) (hf:fs.length≤1000) (hgl:gs.length≤1000) (hgp:0<gs.length) (h:ls.length≤1000) (he:handE fs re lo fs.length ls=0) (hmx:mixP gs=false)
 {K:AVal→SMem→Prop} (hNo:∀ e:Int,enE fs gs re lo g a ls=e→e≠0→K (.int .i64 e) ⟨[],2⟩)
 (hYes:enE fs gs re lo g a ls=0→K (.int .i64 0) ⟨[(3,.cells 3 ((enF fs gs g.toNat gs.length).map rowG)),(1,.cells 5 [[.sl 3 0 (fs.length+gs.length),.int .i64 re,.int .i64 lo,.int .i64 ((fs.length:Int)+gs.length),.imm ((enD g a ls gs.length).map rowL)]])],4⟩)
 (k:Bool) (hk:k=false→fs=[]) (l:List (Nat×Nat)) (e:Env) (m:SMem) (hs:SubR 2 l (enS gs g 0) (enM k fs gs re lo g a ls 0) e m) :
 wpZ Tryz.prog 76 2 (.loop lp50) (blockS 0 (thenS (wpZ Tryz.prog 76 2 rs50 (retN 76 [(6,none)] (EndK 2 K))) (retN 76 [(6,none)] (EndK 2 K)))) e m:=by
 obtain⟨hB,hE,_,hP⟩:=handE_zero he
 have hf40:fs.length≤40:=by have:=(errC_lo hE).2; omega
 have hg0:gs≠[]:=fun e=>by subst e; simp at hgp
 refine wZ_loop (α:=Nat×Bool) (fun s=>enS gs g s.1) (fun s=>enM s.2 fs gs re lo g a ls s.1) (fun s=>gs.length - s.1)
  (fun s=>s.1≤gs.length∧(0<s.1→okP fs.length g a ls∧fs.length+s.1≤40)∧(s.2=false→s.1=0∧fs=[])) (0,k) l hs ⟨by simp,by simp,fun hq=>⟨rfl,hk hq⟩⟩ ?_
 clear hs l e m hk k
 rintro⟨d,k⟩ ⟨hd,hok,hk⟩ N hN
 try simp only at hd hok hk hN ⊢
 have hrA:∀ d q,renLL q ((enF fs gs g.toNat d).map rowG)=(enF fs gs g.toNat d).map rowG:=fun d q=>renLL_closed q _ (closed_rowG _)
 have hrC:∀ d q,renLL q ((enD g a ls d).map rowL)=(enD g a ls d).map rowL:=fun d q=>renLL_closed q _ (closed_rows _)
 have hrg:∀ q,renLL q (gs.map rowG)=gs.map rowG:=fun q=>renLL_closed q _ (closed_rowG _)
 have hrs:∀ q,renLL q (ls.map rowL)=ls.map rowL:=fun q=>renLL_closed q _ (closed_rows _)
 have hlg:(gs.map rowG).length=gs.length:=List.length_map ..
 have hwd:IntKind.i64.wrap ((d:Int)+1)=(d:Int)+1:=wrap64 (by omega) (by omega)
 by_cases hlt:d<gs.length
 · have hgi:=get_rowG gs (i:=d) hlt
   obtain⟨hgl',hg2⟩:=getE hgi
   have hEd:errC (fs.length+d) (enD g a ls d)=0:=by
    by_cases h0:d=0
    · subst h0; simpa [enD] using hE
    · obtain⟨o1,o2⟩:=hok (by omega)
      exact enD_ok hE o1 d (by omega)
   have hIns:=cInsertA (fs.length+d) (g+d) (lfA a d) (enD g a ls d) hEd
   have hiff:=okI_iff (f:=fs.length) (g:=g) (a:=a) (ls:=ls) d fun h0=>(hok h0).1
   by_cases hI:okI (fs.length+d) (g+d) (lfA a d) (enD g a ls d)
   · rw [if_pos hI] at hIns
     obtain⟨o1,o2⟩:=hiff.1 hI
     have hgr:=o1
     obtain⟨p1,p2,_,_⟩:=hgr
     have hG:g.toNat≤fs.length:=by omega
     have hnl:((enF fs gs g.toNat d).map rowG).length=fs.length+d:=by rw [List.length_map,enF_length hd]
     have hA1:((enF fs gs g.toNat d).map rowG).take (g.toNat+d)++rowG (fgAt gs d) :: ((enF fs gs g.toNat d).map rowG).drop (g.toNat+d)=(enF fs gs g.toNat (d+1)).map rowG:=by
      rw [enF_succ hG hlt,List.map_append,List.map_cons,List.map_take,List.map_drop]
     have hgd:((g.toNat+d:Nat):Int)=g+d:=by omega
     have hwp:IntKind.i64.wrap (g+(d:Int)+1)=g+(d:Int)+1:=wrap64 (by omega) (by omega)
     have e1:enS gs g (d+1)=[(31,.int .i64 ((d:Int)+1)),(30,.int .i64 gs.length),(29,.imm (gs.map rowG)),(9,.int .i64 g),(8,.ptr 6 0 0),(7,.ptr 5 0 0),(5,.ptr 3 0 0),(0,.ptr 1 0 0)]:=by simp [enS]
     have e2:enM true fs gs re lo g a ls (d+1)=⟨[(4,.cells 3 ((enF fs gs g.toNat (d+1)).map rowG)),(5,.cells 3 [[.sl 4 0 (fs.length+d+1),.int .i64 re,.int .i64 lo]]),(6,.cells 2 [[.int .i64 ((fs.length:Int)+d+1),.imm ((enD g a ls (d+1)).map rowL)]]),
      (1,stN re lo fs.length ls),(3,.cells 2 [[.int .i64 (g+d+1),.int .i64 0]])],7⟩:=by simp [enM,enV,lfA,Int.add_assoc,Nat.add_assoc]
     have hN':∀ l e m,SubR 2 l (enS gs g (d+1)) (enM true fs gs re lo g a ls (d+1)) e m→N e m:=fun l e m hs=>
      hN (d+1,true) l e m (by simp only; omega) ⟨by simp only; omega,fun _=>⟨o1,by simp only; omega⟩,fun hq=>by cases hq⟩ hs
     rw [e1,e2] at hN'
     clear hYes hN hNo hiff e1 e2
     have hC1:inN (g+d) (lfA a d) (enD g a ls d)=enD g a ls (d+1):=rfl
     rw [hC1] at hIns
     have hrA0:=hrA d
     have hrA1:=hrA (d+1)
     have hrC0:=hrC d
     have hrC1:=hrC (d+1)
     cases k with
     | false=>
      obtain⟨h0,hf0⟩:=hk rfl
      subst h0
      subst hf0
      have hg:g=0:=by simp at p2; omega
      have hSI:=cInsN (rowG (fgAt gs 0)) rfl rfl
      have hA2:(enF [] gs g.toNat (0+1)).map rowG=[rowG (fgAt gs 0)]:=by rw [← hA1]; simp [enF]
      rw [hA2] at hN'
      subst hg
      unfold cV plV at hIns
      unfold enM enS lp50 enV stN rowG at *
      generalize gs.map _=rows at *
      generalize (enD 0 a ls 0).map rowL=C0 at *
      generalize (enD 0 a ls (0+1)).map rowL=C1 at *
      generalize lfA a 0=L at *
      have hN2:∀ l e m,SubR 2 l [(31,.int .i64 1),(30,.int .i64 gs.length),(29,.imm rows),(9,.int .i64 0),(8,.ptr 6 0 0),(7,.ptr 5 0 0),(5,.ptr 3 0 0),(0,.ptr 1 0 0)]
       ⟨[(4,.cells 3 [[.int .i64 (fgAt gs 0).p,.bool (fgAt gs 0).r,.int .i64 (fgAt gs 0).d]]),(5,.cells 3 [[.sl 4 0 1,.int .i64 re,.int .i64 lo]]),(6,.cells 2 [[.int .i64 1,.imm C1]]),
        (1,.cells 5 [[.bot,.int .i64 re,.int .i64 lo,.int .i64 0,.imm (ls.map rowL)]]),(3,.cells 2 [[.int .i64 1,.int .i64 0]])],7⟩ e m→N e m:=fun l e m hs=>hN' l e m (by simpa using hs)
      have hw1:IntKind.i64.wrap 1=1:=by decide
      clear hN'
      simp at hIns
      simp [hlt,hgi,hg2,hlg]
      refine SC_pure hIns ?_
      simp
      refine SC_ctr hSI [(1,28)] (by simp) (by simp) (by simp) ?_
      rintro r sm ⟨rfl,rfl⟩
      simp [hw1]
      exact hN2 [(4,32)] _ _ (by simp [hrg,hrC1,hrs])
     | true=>
      have hSI:=cIns ((enF fs gs g.toNat d).map rowG) (rowG (fgAt gs d)) (g.toNat+d) (by omega) (by omega) rfl (closed_rowG _) rfl
      rw [hnl,hgd,hA1] at hSI
      unfold cV plV at hIns
      unfold enM enS lp50 enV stN rowG at *
      generalize gs.map _=rows at *
      generalize (enD g a ls d).map rowL=C0 at *
      generalize (enD g a ls (d+1)).map rowL=C1 at *
      generalize List.map _ (enF fs gs g.toNat d)=A0 at *
      generalize List.map _ (enF fs gs g.toNat (d+1))=A1 at *
      generalize lfA a d=L at *
      simp [hlt,hgi,hg2,hlg]
      refine SC_pure hIns ?_
      simp
      refine SC_ctr hSI [(1,4),(2,28)] (by simp) (by simp [hrA0]) (by simp) ?_
      rintro r sm ⟨rfl,rfl⟩
      simp [hrA1,hwp,hwd]
      exact hN' [(4,32)] _ _ (by simp [hrg,hrA1,hrC1,hrs])
   · rw [if_neg hI] at hIns
     have hbad:enE fs gs re lo g a ls=2:=by
      unfold enE
      rw [if_neg hg0,if_neg (by simp [hmx]),if_pos]
      rintro⟨p1,p2⟩
      exact hI (hiff.2 ⟨p1,by omega⟩)
     have hK2:=hNo 2 hbad (by decide)
     clear hYes hN hNo hiff
     unfold noC cV plV at hIns
     unfold enM enS lp50 enV stN rowG at *
     cases k
     · simp [hlt,hgi,hg2,hlg]
       refine SC_pure hIns ?_
       simp
       exact endK hK2 [] (by simp)
     · simp [hlt,hgi,hg2,hlg]
       refine SC_pure hIns ?_
       simp
       exact endK hK2 [] (by simp)
 · have hde:d=gs.length:=by omega
   subst hde
   obtain⟨o1,o2⟩:=hok hgp
   have hk1:k=true:=by
    cases k with
    | true=>rfl
    | false=>have:=(hk rfl).1; omega
   subst hk1
   have hG0:=o1.1
   have hFl:=enF_length (fs:=fs) (gs:=gs) (G:=g.toNat) (d:=gs.length) (Nat.le_refl _)
   have hCl:(enD g a ls gs.length).length≤1000:=by rw [enD_length]; exact h
   have hEd:errC (fs.length+gs.length) (enD g a ls gs.length)=0:=enD_ok hE o1 _ (by omega)
   have hV:=Ctr_own (k:=3) (n:=fs.length+gs.length) (c82 (enF fs gs g.toNat gs.length) re lo (by omega)) (by rw [List.length_map,hFl])
   have hPo:=Ctr_own (k:=3) (n:=fs.length+gs.length) (c83 (enF fs gs g.toNat gs.length) re lo (fs.length+gs.length) (enD g a ls gs.length) (by omega) hCl) (by rw [List.length_map,hFl])
   have hen:enE fs gs re lo g a ls=if frB (enF fs gs g.toNat gs.length) re lo=false then 2 else if posB (enD g a ls gs.length)=false then 4 else 0:=by
    unfold enE
    rw [if_neg hg0,if_neg (by simp [hmx]),if_neg]
    intro hn
    exact hn ⟨o1,by omega⟩
   have hha:handE (enF fs gs g.toNat gs.length) re lo (fs.length+gs.length) (enD g a ls gs.length)=if frB (enF fs gs g.toNat gs.length) re lo=false then 2 else if posB (enD g a ls gs.length)=true then 0 else 2:=by
    unfold handE
    rw [hFl]
    have:((fs.length:Int)+gs.length)=((fs.length+gs.length:Nat):Int):=by omega
    by_cases hb:frB (enF fs gs g.toNat gs.length) re lo=false
    · rw [if_pos hb,if_pos hb]
    · rw [if_neg hb,if_neg hb,if_neg (by simp [hEd])]
      by_cases hp:posB (enD g a ls gs.length)=true
      · rw [if_pos ⟨this,hp⟩,if_pos hp]
      · rw [if_neg (fun e=>hp e.2),if_neg hp]
   have hrA0:=hrA gs.length
   have hrC0:=hrC gs.length
   have hgneg:¬g<0:=by omega
   clear hN hok hrA hrC hk
   rw [hha] at hPo
   rw [hen] at hNo hYes
   unfold cV at hPo
   unfold enM enS lp50 rs50 enV stN
   generalize gs.map rowG=rows at *
   generalize (enD g a ls gs.length).map rowL=C at *
   generalize (enF fs gs g.toNat gs.length).map rowG=A at *
   cases hb:frB (enF fs gs g.toNat gs.length) re lo with
   | false=>
    rw [hb] at hV
    have hK2:=hNo 2 (if_pos hb) (by decide)
    simp [hgneg]
    refine SC_ctr hV [(1,4)] (by simp) (by simp [hrA0]) (by simp) ?_
    rintro r sm ⟨rfl,rfl⟩
    simp
    exact endK hK2 [] (by simp)
   | true=>
    rw [hb] at hV hPo
    have hb':¬(true=false):=by decide
    rw [if_neg hb'] at hPo
    rw [hb,if_neg hb'] at hNo hYes
    cases hp:posB (enD g a ls gs.length) with
    | false=>
     have hK4:=hNo 4 (if_pos hp) (by decide)
     rw [hp] at hPo
     simp [hgneg]
     refine SC_ctr hV [(1,4)] (by simp) (by simp [hrA0]) (by simp) ?_
     rintro r sm ⟨rfl,rfl⟩
     simp [hrA0]
     refine SC_ctr hPo [(1,4)] (by simp [hrC0]) (by simp [hrA0]) (by simp) ?_
     rintro r sm ⟨rfl,rfl⟩
     simp
     exact endK hK4 [] (by simp)
    | true=>
     have hK0:=hYes (if_neg (by rw [hp]; decide))
     rw [hp] at hPo
     simp [hgneg]
     refine SC_ctr hV [(1,4)] (by simp) (by simp [hrA0]) (by simp) ?_
     rintro r sm ⟨rfl,rfl⟩
     simp [hrA0]
     refine SC_ctr hPo [(1,4)] (by simp [hrC0]) (by simp [hrA0]) (by simp) ?_
     rintro r sm ⟨rfl,rfl⟩
     simp [FT.indep,hrA0]
     exact endK hK0 [(3,4)] (by simp [hrA0,hrC0])
set_option maxRecDepth 100000 in
set_option maxHeartbeats 16000000 in
theorem c50e (fs gs:List Fg) (re lo g a:Int) (ls:List Lt) (hf:fs.length≤1000) (hgl:gs.length≤1000) (h:ls.length≤1000) (he:handE fs re lo fs.length ls=0) :
 Ctr Tryz.prog 78 [.ptr 1 0 0,.imm (gs.map rowG),plV g a] ⟨[(1,stB fs re lo fs.length ls)],2⟩ fun r m=>
  (enE fs gs re lo g a ls≠0∧r=.int .i64 (enE fs gs re lo g a ls)∧m=⟨[],2⟩) ∨
  (enE fs gs re lo g a ls=0∧r=.int .i64 0∧m=⟨[(3,.cells 3 ((enF fs gs g.toNat gs.length).map rowG)),(1,.cells 5 [[.sl 3 0 (fs.length+gs.length),.int .i64 re,.int .i64 lo,.int .i64 ((fs.length:Int)+gs.length),.imm ((enD g a ls gs.length).map rowL)]])],4⟩):=by
 obtain⟨hB,hE,_,hP⟩:=handE_zero he
 refine ctr_P hm Tryz.func78 cf50 rfl rfl fun K hK=>?_
 have hrr:∀ (x:List Lt) q,renLL q (x.map rowL)=x.map rowL:=fun x q=>renLL_closed q _ (closed_rows x)
 have hrG:∀ (x:List Fg) q,renLL q (x.map rowG)=x.map rowG:=fun x q=>renLL_closed q _ (closed_rowG x)
 have hlg:(gs.map rowG).length=gs.length:=List.length_map ..
 have hNo:∀ e:Int,enE fs gs re lo g a ls=e→e≠0→K (.int .i64 e) ⟨[],2⟩:=fun e h1 h2=>hK _ _ (.inl ⟨by rw [h1]; exact h2,by rw [h1],rfl⟩)
 have hYes:=fun h1=>hK _ _ (.inr ⟨h1,rfl,rfl⟩)
 clear hK
 have hrs:=hrr ls
 have hrf:=hrG fs
 have hrg:=hrG gs
 by_cases hg0:gs=[]
 · subst hg0
   unfold stB plV at *
   simp
   exact endK (hNo 2 (by unfold enE; rw [if_pos rfl]) (by decide)) [] (by simp)
 have hgp:0<gs.length:=List.length_pos_iff.2 hg0
 have h84:=c84m gs hgp hgl
 have hgn:¬gs.length=0:=by omega
 unfold eM at h84
 unfold stB plV at *
 simp [hg0,hgn,hlg]
 refine SC_ctr h84 [(1,2)] (by simp [hrg]) (by simp [hrg]) (by simp) ?_
 rintro r sm ⟨rfl,rfl⟩
 cases hmx:mixP gs with
 | true=>
  simp
  exact endK (hNo 2 (by unfold enE; rw [if_neg hg0,if_pos hmx]) (by decide)) [] (by simp)
 | false=>
  simp [hrg]
  by_cases hf0:fs=[]
  · have h51:=c51q re lo fs.length ls h
    unfold stB at h51
    subst hf0
    refine SC_ctr h51 [] (by simp) (by simp [hrf,hrs]) (by simp) ?_
    unfold resQ stN cV
    rintro r sm (⟨rfl,rfl⟩ | ⟨rfl,rfl⟩)
    · simp [hrs]
      refine tail50 [] gs re lo g a ls hf hgl hgp h he hmx hNo hYes false (fun _=>rfl) [(5,18),(6,19),(3,3)] _ _ ?_
      simp [enS,enM,enV,stN,enD,lfA,hrg,hrs]
    · simp [hrs]
      refine tail50 [] gs re lo g a ls hf hgl hgp h he hmx hNo hYes true (fun _=>rfl) [(5,18),(6,19),(3,3),(4,23)] _ _ ?_
      simp [enS,enM,enV,stN,enD,lfA,enF,hrg,hrs]
  · have h51:=c51f fs re lo fs.length ls hf0 hf h
    unfold stB cV at h51
    refine SC_ctr h51 [] (by simp) (by simp [hrf,hrs]) (by simp) ?_
    rintro r sm ⟨rfl,rfl⟩
    simp [hrf,hrs]
    refine tail50 fs gs re lo g a ls hf hgl hgp h he hmx hNo hYes true (fun hk=>by cases hk) [(5,18),(6,19),(3,3),(4,22)] _ _ ?_
    simp [enS,enM,enV,stN,enD,lfA,enF_zero,hrg,hrs,hrf,bsub_st]
end Go.Known
end
section
namespace Go.Known
open Go Go.AE Go.Proofs
open Go.Plain
theorem c50f (fs gs:List Fg) (re lo g a:Int) (ls:List Lt) (hf:fs.length≤1000) (hgl:gs.length≤1000) (h:ls.length≤1000) (he:handE fs re lo fs.length ls=0) :
 Ctr Tryz.prog 78 [.ptr 1 0 0,.imm (gs.map rowG),plV g a] ⟨[(1,stB fs re lo fs.length ls)],2⟩ fun r m=>
  (enE fs gs re lo g a ls≠0∧r=.int .i64 (enE fs gs re lo g a ls)∧m=⟨[],2⟩) ∨
  (enE fs gs re lo g a ls=0∧r=.int .i64 0∧m=⟨[(1,stB (enF fs gs g.toNat gs.length) re lo (fs.length+gs.length) (enD g a ls gs.length))],4⟩):=by
 refine(c50e fs gs re lo g a ls hf hgl h he).freezeB fun r sm=>?_
 have hFl:(enF fs gs g.toNat gs.length).length=fs.length+gs.length:=enF_length (Nat.le_refl _)
 rintro(⟨h1,rfl,rfl⟩ | ⟨h1,rfl,rfl⟩)
 · exact⟨[],.inl ⟨h1,rfl,rfl⟩⟩
 · refine⟨[3],.inr ⟨h1,rfl,?_⟩⟩
   have e1:((enF fs gs g.toNat gs.length).map rowG).take (fs.length+gs.length)=(enF fs gs g.toNat gs.length).map rowG:=List.take_of_length_le (by simp [hFl])
   have e2:=fzV_slT (S:=[3]) (b:=3) (k:=3) (len:=fs.length+gs.length) (els:=(enF fs gs g.toNat gs.length).map rowG)
    (get:=SMem.get ⟨[(3,.cells 3 ((enF fs gs g.toNat gs.length).map rowG)),(1,.cells 5 [[.sl 3 0 (fs.length+gs.length),.int .i64 re,.int .i64 lo,.int .i64 ((fs.length:Int)+gs.length),.imm ((enD g a ls gs.length).map rowL)]])],4⟩)
    rfl rfl (by simp [hFl]) (by rw [e1]; exact scal_rowG _)
   rw [e1] at e2
   have e3:∀ x y:ABlk,lessB [3] [(3,x),(1,y)]=[(1,y)]:=fun x y=>by simp [lessB,memN]
   rw [e3]
   simp only [fzBl,fzBk,fzLL,List.map_cons,List.map_nil,fzV_int,fzV_immL,e2]
   rfl
noncomputable def enT (fs gs:List Fg) (re lo f g a:Int) (ls:List Lt):AVal:=
 if handE fs re lo f ls≠0 then .tuple [.agg [.nilSl,.int .i64 0,.int .i64 0],.agg [.int .i64 0,.nilSl],.int .i64 (handE fs re lo f ls)]
 else if enE fs gs re lo g a ls≠0 then .tuple [.agg [.nilSl,.int .i64 0,.int .i64 0],.agg [.int .i64 0,.nilSl],.int .i64 (enE fs gs re lo g a ls)]
 else .tuple [frV (enF fs gs g.toNat gs.length) re lo,cV (fs.length+gs.length) (enD g a ls gs.length),.int .i64 0]
theorem closed_enT (fs gs:List Fg) (re lo f g a:Int) (ls:List Lt):(enT fs gs re lo f g a ls).closed=true:=by
 unfold enT
 split
 · rfl
 · split
   · rfl
   · simp [AVal.closed,closedL,frV,closed_rowG,closed_rows]
set_option maxRecDepth 100000 in
set_option maxHeartbeats 8000000 in
theorem cEnter (fs gs:List Fg) (re lo f g a:Int) (ls:List Lt) (hf:fs.length≤500) (hgl:gs.length≤500) (h:ls.length≤1000):PCall Tryz.prog 36 [frV fs re lo,cV f ls,.imm (gs.map rowG),plV g a] (enT fs gs re lo f g a ls):=by
 refine PCall_F hm 5 Tryz.func36 cf24 rfl rfl (by simp [closedL,AVal.closed,closed_rowG,closed_rows,frV,plV]) (closed_enT _ _ _ _ _ _ _ _) fun K hK=>?_
 have hrs:∀ (x:List Lt) q,renLL q (x.map rowL)=x.map rowL:=fun x q=>renLL_closed q _ (closed_rows x)
 have hrf:∀ (x:List Fg) q,renLL q (x.map rowG)=x.map rowG:=fun x q=>renLL_closed q _ (closed_rowG x)
 have h49:=c49 fs re lo f ls (by omega) h
 have hS:(enF fs gs g.toNat gs.length).length≤1000:=by rw [enF_length (Nat.le_refl _)]; omega
 unfold enT at hK
 have hrs1:=hrs ls
 have hrf1:=hrf fs
 have hrg1:=hrf gs
 by_cases hE:handE fs re lo f ls=0
 · rw [if_neg (by simp [hE])] at hK
   obtain⟨_,hE',hF,_⟩:=handE_zero hE
   subst hF
   have h50:=c50f fs gs re lo g a ls (by omega) (by omega) h hE
   have hL:(enD g a ls gs.length).length≤1000:=by rw [enD_length]; exact h
   by_cases hl:enE fs gs re lo g a ls=0
   · rw [if_neg (by simp [hl])] at hK
     have hKv:=hK _ ⟨[],1⟩ (fz_fr _ (enF fs gs g.toNat gs.length) re lo (fs.length+gs.length) 0 (enD g a ls gs.length))
     have h51:=c51z (enF fs gs g.toNat gs.length) re lo (fs.length+gs.length) (enD g a ls gs.length) hS hL
     have hrs2:=hrs (enD g a ls gs.length)
     have hrf2:=hrf (enF fs gs g.toNat gs.length)
     clear hK
     unfold stB frV cV plV at *
     simp
     refine SC_ctr h49 [] (by simp [hrs1,hrf1]) (by simp) (by simp) ?_
     rintro r sm (⟨h1,_⟩ | ⟨_,rfl,rfl⟩)
     · exact absurd hE h1
     simp [hrs1,hrf1]
     refine SC_ctr h50 [(1,15)] (by simp [hrg1]) (by simp [hrs1,hrf1]) (by simp) ?_
     rintro r sm (⟨h1,_⟩ | ⟨_,rfl,rfl⟩)
     · exact absurd hl h1
     simp [hrs2,hrf2]
     refine SC_ctr h51 [(1,15)] (by simp) (by simp [hrs2,hrf2]) (by simp) ?_
     rintro r sm ⟨rfl,rfl⟩
     simp [hrs2,hrf2,FT.indep]
     exact endK hKv [] (by simp [hrs2,hrf2])
   · rw [if_pos (by simpa using hl)] at hK
     have hKv:=hK (.tuple [.agg [.nilSl,.int .i64 0,.int .i64 0],.agg [.int .i64 0,.nilSl],.int .i64 (enE fs gs re lo g a ls)]) ⟨[],1⟩ rfl
     clear hK
     unfold stB frV cV plV at *
     simp
     refine SC_ctr h49 [] (by simp [hrs1,hrf1]) (by simp) (by simp) ?_
     rintro r sm (⟨h1,_⟩ | ⟨_,rfl,rfl⟩)
     · exact absurd hE h1
     simp [hrs1,hrf1]
     refine SC_ctr h50 [(1,15)] (by simp [hrg1]) (by simp [hrs1,hrf1]) (by simp) ?_
     rintro r sm (⟨_,rfl,rfl⟩ | ⟨h1,_⟩)
     · simp [hl]
       exact endK hKv [] (by simp)
     · exact absurd h1 hl
 · rw [if_pos (by simpa using hE)] at hK
   have hKv:=hK (.tuple [.agg [.nilSl,.int .i64 0,.int .i64 0],.agg [.int .i64 0,.nilSl],.int .i64 (handE fs re lo f ls)]) ⟨[],1⟩ rfl
   clear hK
   unfold frV cV plV at *
   simp
   refine SC_ctr h49 [] (by simp [hrs1,hrf1]) (by simp) (by simp) ?_
   rintro r sm (⟨_,rfl,rfl⟩ | ⟨h1,_⟩)
   · simp [hE]
     exact endK hKv [] (by simp)
   · exact absurd h1 hE
end Go.Known
end
section
namespace Go.Known
open Go Go.AE Go.Proofs
open Go.Plain
def perL (fs:List Fg) (ls:List Lt):Nat→List Nat
 | 0=>[]
 | i+1=>if 0<smP ((i:Int)+1) fs ls fs.length then perL fs ls i++[i+1] else perL fs ls i
theorem perL_length (fs:List Fg) (ls:List Lt):∀ n,(perL fs ls n).length≤n
 | 0=>Nat.le_refl _
 | i+1=>by
  have:=perL_length fs ls i
  unfold perL
  split
  · simp; omega
  · omega
noncomputable def peT (fs:List Fg) (re lo f:Int) (ls:List Lt):AVal:=
 if handE fs re lo f ls≠0 then .tuple [.nilSl,.int .i64 (handE fs re lo f ls)] else .tuple [imV (nums (perL fs ls 9)),.int .i64 0]
theorem closed_peT (fs:List Fg) (re lo f:Int) (ls:List Lt):(peT fs re lo f ls).closed=true:=by
 unfold peT
 split
 · rfl
 · simp [AVal.closed,closedL,closed_imV (closed_nums _)]
set_option maxRecDepth 100000 in
set_option maxHeartbeats 8000000 in
theorem cPersons (fs:List Fg) (re lo f:Int) (ls:List Lt) (hf:fs.length≤1000) (h:ls.length≤1000):PCall Tryz.prog 32 [frV fs re lo,cV f ls] (peT fs re lo f ls):=by
 refine PCall_F hm 4 Tryz.func32 clPersons rfl rfl (by simp [closedL,AVal.closed,closed_rowG,closed_rows,frV]) (closed_peT _ _ _ _ _) fun K hK=>?_
 have hrs1:∀ q,renLL q (ls.map rowL)=ls.map rowL:=fun q=>renLL_closed q _ (closed_rows ls)
 have hrf1:∀ q,renLL q (fs.map rowG)=fs.map rowG:=fun q=>renLL_closed q _ (closed_rowG fs)
 have h49:=c49 fs re lo f ls hf h
 unfold peT at hK
 by_cases hE:handE fs re lo f ls=0
 · rw [if_neg (by simp [hE])] at hK
   obtain⟨_,hE',hF,_⟩:=handE_zero hE
   subst hF
   have h90:=fun p=>c90 p fs re lo ls hf h hE
   have hKv:=hK _ _ (fz_loops (perL fs ls 9))
   clear hK
   have hren:=ren_nums
   unfold stB frV cV at *
   generalize ls.map rowL=rows at *
   generalize fs.map rowG=rowsG at *
   simp
   refine SC_ctr h49 [] (by simp [hrs1,hrf1]) (by simp) (by simp) ?_
   rintro r sm (⟨h1,_⟩ | ⟨_,rfl,rfl⟩)
   · exact absurd hE h1
   simp [hrs1,hrf1]
   refine wZ_loop (α:=Nat) (fun i=>[(9,.int .i64 ((i:Int)+1)),(8,slV 4 (nums (perL fs ls i))),(6,.ptr 3 0 0)])
    (fun i=>⟨(3,.cells 5 [[.imm rowsG,.int .i64 re,.int .i64 lo,.int .i64 fs.length,.imm rows]]) :: blV 4 1 (nums (perL fs ls i)) [],5⟩) (fun i=>9 - i) (fun i=>i≤9) 0 [(3,13)] (by simp [hrs1,hrf1,perL,nums]) (by simp) ?_
   intro i hi N hN
   try simp only at hi hN ⊢
   have hw:IntKind.i64.wrap ((i:Int)+1+1)=(i:Int)+1+1:=wrap64 (by omega) (by omega)
   by_cases hlt:i<9
   · have h1:=h90 ((i:Int)+1)
     have hN':=hN (i+1)
     have hcl:(perL fs ls i).length≤1048575:=by have:=perL_length fs ls i; omega
     have hc0:(i:Int)+1≤9:=by omega
     rw [Int.natCast_add,Int.natCast_one] at hN'
     simp [hc0]
     refine SC_ctr h1 [(1,3)] (by simp) (by simp [hrs1,hrf1]) (by simp) ?_
     rintro r sm ⟨rfl,rfl⟩
     by_cases hsm:0<smP ((i:Int)+1) fs ls fs.length
     · have hns:nums (perL fs ls (i+1))=nums (perL fs ls i)++[[.int .i64 ((i:Int)+1)]]:=by
        rw [perL,if_pos hsm]; simp [nums]
       rw [hns] at hN'
       have hsm':(0:Int)<smP ((i:Int)+1) fs ls fs.length:=by omega
       simp [hsm,hsm',hcl,hw]
       exact hN' [(3,3),(4,14)] _ _ (by omega) (by omega) (by simp +contextual [hrs1,hrf1,hren])
     · have hns:perL fs ls (i+1)=perL fs ls i:=by rw [perL,if_neg hsm]
       rw [hns] at hN'
       have hsm':¬(0:Int)<smP ((i:Int)+1) fs ls fs.length:=by omega
       have hsm0:smP ((i:Int)+1) fs ls fs.length=0:=by omega
       simp [hsm,hsm',hsm0,hw]
       exact hN' [(3,3),(4,4)] _ _ (by omega) (by omega) (by simp +contextual [hrs1,hrf1,hren])
   · have hie:i=9:=by omega
     subst hie
     simp
     exact endK hKv [(1,4)] (by simp +contextual [hren])
 · rw [if_pos (by simpa using hE)] at hK
   have hKv:=hK (.tuple [.nilSl,.int .i64 (handE fs re lo f ls)]) ⟨[],1⟩ rfl
   clear hK
   unfold frV cV at *
   simp
   refine SC_ctr h49 [] (by simp [hrs1,hrf1]) (by simp) (by simp) ?_
   rintro r sm (⟨_,rfl,rfl⟩ | ⟨h1,_⟩)
   · simp [hE]
     exact endK hKv [] (by simp)
   · exact absurd h1 hE
end Go.Known
end
