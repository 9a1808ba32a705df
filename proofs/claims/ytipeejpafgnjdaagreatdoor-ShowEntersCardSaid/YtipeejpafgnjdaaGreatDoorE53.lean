/- Part 53 of the proof: Wq, Wr, Ws. -/
import Derived.Test.YtipeejpafgnjdaaGreatDoorE52
set_option linter.all false
section
namespace Go.Known
open Go Go.AE Go.Proofs
open Go.Plain
theorem mixP_iff {gs:List Fg}:mixP gs=true ↔ ∃ j,j<gs.length∧(fgAt gs j).p≠perF gs:=by
 unfold mixP
 rw [List.any_eq_true]
 constructor
 · rintro⟨x,hx,h⟩
   obtain⟨j,hj,rfl⟩:=List.getElem_of_mem hx
   exact⟨j,hj,by rw [Zfs hj]; simpa using h⟩
 · rintro⟨j,hj,h⟩
   exact⟨_,List.getElem_mem hj,by rw [← Zfs hj]; simpa using h⟩
def erT (e:Int):AVal:=.tuple [.agg [.nilSl,.int .i64 0,.int .i64 0],.agg [.int .i64 0,.nilSl],.int .i64 e]
theorem Z3z {fs gs:List Fg} {re lo f g a e:Int} {ls:List Lt} (h:Zcj fs re lo f ls=0) (h1:enE fs gs re lo g a ls=e) (h2:e≠0):enT fs gs re lo f g a ls=erT e:=by
 unfold enT
 rw [if_neg (by simp [h]),if_pos (by rw [h1]; exact h2),h1]
 rfl
theorem enT_ok {fs gs:List Fg} {re lo f g a:Int} {ls:List Lt} (h:Zcj fs re lo f ls=0) (h1:enE fs gs re lo g a ls=0):enT fs gs re lo f g a ls=.tuple [frV (enF fs gs g.toNat gs.length) re lo,cV (fs.length+gs.length) (enD g a ls gs.length),.int .i64 0]:=by
 unfold enT
 rw [if_neg (by simp [h]),if_neg (by simp [h1])]
def lpR:ACode:=(.seq (sr [mv 81 15,mv 82 2,le 83 82,cL 84 81 83]
 (.cond (tZ 84) .skip
 (.exit 2)))
 (.seq (.block 3 (sr [lw 87 2 14,lw 88 2 7,ca2 89 80 87 88,so 2 14 89]
 (rf [fa 90 0 7,lo 91 90,aDk 92 91 1,oZ 93 (.build [(.int .i64 0),(.int .i64 0)] [(0,1,(tZ 92))]),so 2 7 93])))
 (rf [mv 85 15,aDk 86 85 1,mv 15 86])))
def rsR:ACode:=(.seq (sr [lw 94 2 14,ca1 95 77 94,no 96 95]
 (.cond (tZ 96) (sr [oZ 97 (.build [.nilSl,(.int .i64 0),(.int .i64 0)] []),oZ 98 (.build [(.int .i64 0),.nilSl] []),so 3 8 97,so 2 9 98,mk 10 4]
 .ret)
 .skip))
 (.seq (.region true [lw 99 3 13,lw 100 2 14,⟨none,.store 3 (tZ 8) (tZ 99),none,[1]⟩,so 2 9 100,mk 10 0])
 .ret))
theorem Z38 {fs:List Fg} {re lo:Int} (h:frB fs re lo=true):fs.length≤40:=by
 by_cases hv:FrV fs re lo
 · exact hv.1
 · rw [Zok hv] at h; cases h
def reM (fs gs:List Fg) (re lo g a:Int) (ls:List Lt) (d:Nat):SMem:=
 ⟨[(6,.cells 3 ((enF fs gs g.toNat gs.length).map rowG)),(7,.cells 3 [[.sl 6 0 (fs.length+gs.length),.int .i64 re,.int .i64 lo]]),(8,.cells 2 [[.int .i64 ((fs.length:Int)+d),.imm ((enD g a ls d).map rowL)]]),
  (3,.cells 2 [[.int .i64 (g+d),.int .i64 (lfA a d)]]),(4,.cells 3 [[.nilSl,.int .i64 0,.int .i64 0]]),(5,.cells 2 [[.int .i64 0,.nilSl]])],9⟩
def reS (gs:List Fg) (d:Nat):Env:=[(15,.int .i64 d),(14,.ptr 8 0 0),(13,.ptr 7 0 0),(9,.ptr 5 0 0),(8,.ptr 4 0 0),(7,.ptr 3 0 0),(2,.imm (gs.map rowG))]
theorem fz_frO (fs:List Fg) (n:Nat) (hn:fs.length=n) (re lo f e:Int) (ls:List Lt):Zaj (SMem.get ⟨[(6,.cells 3 (fs.map rowG))],9⟩) 5 (.tuple [.agg [.sl 6 0 n,.int .i64 re,.int .i64 lo],cV f ls,.int .i64 e])=some (.tuple [frV fs re lo,cV f ls,.int .i64 e]):=by
 have h1:=Zeb (n:=2) (get:=SMem.get ⟨[(6,.cells 3 (fs.map rowG))],9⟩) (b:=6) (k:=3) (rows:=fs.map rowG) (by simp) (Zkh fs)
 rw [List.length_map,hn] at h1
 have h2:=Zff (get:=SMem.get ⟨[(6,.cells 3 (fs.map rowG))],9⟩) (n:=2) (Zdr (get:=SMem.get ⟨[(6,.cells 3 (fs.map rowG))],9⟩) (n:=1) ls)
 unfold cV
 rw [Zaj]
 simp only [mapO]
 rw [Zaj]
 simp only [mapO]
 rw [h1,Zaj]
 simp only [mapO]
 rw [h2]
 rfl
set_option maxRecDepth 100000 in
set_option maxHeartbeats 16000000 in
theorem tailR (fs gs:List Fg) (re lo g a:Int) (ls:List Lt) (hgl:gs.length≤500) (h:ls.length≤1000) (hE:errC fs.length ls=0) (hg0:gs≠[]) (hmx:mixP gs=false) (hpl:okP fs.length g a ls) (hfr:frB (enF fs gs g.toNat gs.length) re lo=true)
 {K:AVal→SMem→Prop} (hbad:∀ e:Int,enE fs gs re lo g a ls=e→e≠0→K (.tuple [.agg [.nilSl,.int .i64 0,.int .i64 0],.agg [.int .i64 0,.nilSl],.int .i64 e]) ⟨[],1⟩)
 (hgood:enE fs gs re lo g a ls=0 → ∀ r sm,Zaj sm.get 5 r=some (.tuple [frV (enF fs gs g.toNat gs.length) re lo,cV (fs.length+gs.length) (enD g a ls gs.length),.int .i64 0])→K r sm)
 (l:List (Nat×Nat)) (e:Env) (m:SMem) (hs:SubR 1 l (reS gs 0) (reM fs gs re lo g a ls 0) e m) :
 wpZ Tryz.prog 101 1 (.loop lpR) (Ze7 2 (Zft (wpZ Tryz.prog 101 1 rsR (retN 101 [(8,some (some 3)),(9,some (some 2)),(10,none)] (EndK 1 K))) (retN 101 [(8,some (some 3)),(9,some (some 2)),(10,none)] (EndK 1 K)))) e m:=by
 have hFl:=Zec (fs:=fs) (gs:=gs) (G:=g.toNat) (d:=gs.length) (Nat.le_refl _)
 have hl40:=Z38 hfr
 refine Zay (α:=Nat) (fun d=>reS gs d) (fun d=>reM fs gs re lo g a ls d) (fun d=>gs.length - d) (fun d=>d≤gs.length) 0 l hs (by simp) ?_
 clear hs l e m
 intro d hd N hN
 try simp only at hd hN ⊢
 have hrA:∀ q,Zam q ((enF fs gs g.toNat gs.length).map rowG)=(enF fs gs g.toNat gs.length).map rowG:=fun q=>Zaa q _ (Zaf _)
 have hrC:∀ d q,Zam q ((enD g a ls d).map rowL)=(enD g a ls d).map rowL:=fun d q=>Zaa q _ (Zab _)
 have hrg:∀ q,Zam q (gs.map rowG)=gs.map rowG:=fun q=>Zaa q _ (Zaf _)
 have hlg:(gs.map rowG).length=gs.length:=List.length_map ..
 have hwd:IntKind.i64.wrap ((d:Int)+1)=(d:Int)+1:=Zad (by omega) (by omega)
 have hEd:=fun d (hd:d≤gs.length)=>Zu5 hE hpl d (by omega)
 by_cases hlt:d<gs.length
 · have hI:=(Zzd (f:=fs.length) (g:=g) (a:=a) (ls:=ls) d fun _=>hpl).2 ⟨hpl,by omega⟩
   have hIns:=Zyp (fs.length+d) (g+d) (lfA a d) (enD g a ls d) (hEd d hd) hI
   have hwp:IntKind.i64.wrap (g+(d:Int)+1)=g+(d:Int)+1:=by
    obtain⟨p1,p2,_,_⟩:=hpl
    exact Zad (by omega) (by omega)
   have e1:reS gs (d+1)=[(15,.int .i64 ((d:Int)+1)),(14,.ptr 8 0 0),(13,.ptr 7 0 0),(9,.ptr 5 0 0),(8,.ptr 4 0 0),(7,.ptr 3 0 0),(2,.imm (gs.map rowG))]:=by simp [reS]
   have e2:reM fs gs re lo g a ls (d+1)=⟨[(6,.cells 3 ((enF fs gs g.toNat gs.length).map rowG)),(7,.cells 3 [[.sl 6 0 (fs.length+gs.length),.int .i64 re,.int .i64 lo]]),(8,.cells 2 [[.int .i64 ((fs.length:Int)+d+1),.imm ((enD g a ls (d+1)).map rowL)]]),
    (3,.cells 2 [[.int .i64 (g+d+1),.int .i64 0]]),(4,.cells 3 [[.nilSl,.int .i64 0,.int .i64 0]]),(5,.cells 2 [[.int .i64 0,.nilSl]])],9⟩:=by simp [reM,lfA,Int.add_assoc]
   have hN':∀ l e m,SubR 1 l (reS gs (d+1)) (reM fs gs re lo g a ls (d+1)) e m→N e m:=fun l e m hs=>hN (d+1) l e m (by omega) (by omega) hs
   rw [e1,e2] at hN'
   clear hgood hbad hN e1 e2
   have hC1:inN (g+d) (lfA a d) (enD g a ls d)=enD g a ls (d+1):=rfl
   rw [hC1] at hIns
   have hrC0:=hrC d
   have hrC1:=hrC (d+1)
   unfold cV plV at hIns
   unfold reM reS lpR
   generalize gs.map _=rows at *
   generalize (enD g a ls d).map rowL=C0 at *
   generalize (enD g a ls (d+1)).map rowL=C1 at *
   generalize List.map _ (enF fs gs g.toNat gs.length)=A at *
   generalize lfA a d=L at *
   simp [hlt,hlg]
   refine Zai hIns ?_
   simp [hwp,hwd]
   exact hN' [(3,3),(4,4),(5,5),(6,6),(7,7),(8,8)] _ _ (by simp [hrg,hrA,hrC1])
 · have hde:d=gs.length:=by omega
   subst hde
   have hEg:=hEd gs.length (Nat.le_refl _)
   have hPo:=Zwn (fs.length+gs.length) (enD g a ls gs.length) (by rw [Zfg]; exact h) (Zld hEg)
   have hen:enE fs gs re lo g a ls=if posB (enD g a ls gs.length)=false then 4 else 0:=by
    unfold enE
    rw [if_neg hg0,if_neg (by simp [hmx]),if_neg,if_neg (by simp [hfr])]
    intro hn
    exact hn ⟨hpl,by omega⟩
   rw [hen] at hbad hgood
   have hrC0:=hrC gs.length
   have hfz:=fz_frO (enF fs gs g.toNat gs.length) (fs.length+gs.length) hFl re lo (fs.length+gs.length) 0 (enD g a ls gs.length)
   clear hN
   unfold frV cV at *
   unfold reM reS lpR rsR
   cases hp:posB (enD g a ls gs.length) with
   | false=>
    have hK4:=hbad 4 (if_pos hp) (by decide)
    rw [hp] at hPo
    simp [hlg]
    refine Zai hPo ?_
    simp
    exact endK hK4 [] (by simp)
   | true=>
    have hK0:=hgood (if_neg (by rw [hp]; decide)) _ _ hfz
    rw [hp] at hPo
    generalize (enD g a ls gs.length).map rowL=C0 at *
    generalize List.map _ (enF fs gs g.toNat gs.length)=A at *
    simp [hlg]
    refine Zai hPo ?_
    simp [FT.indep]
    exact endK hK0 [(6,6)] (by simp [hrA,hrC0])
set_option maxRecDepth 100000 in
set_option maxHeartbeats 16000000 in
theorem Z3h (fs gs:List Fg) (re lo f g a:Int) (ls:List Lt) (hf:fs.length≤500) (hgl:gs.length≤500) (h:ls.length≤1000):PCall Tryz.prog 37 [frV fs re lo,cV f ls,.imm (gs.map rowG),plV g a] (enT fs gs re lo f g a ls):=by
 refine Zcx hm 5 Tryz.func37 Z07 rfl rfl (by simp [Zae,AVal.closed,Zaf,Zab,frV,plV]) (Zpk _ _ _ _ _ _ _ _) fun K hK=>?_
 have hrs:∀ (x:List Lt) q,Zam q (x.map rowL)=x.map rowL:=fun x q=>Zaa q _ (Zab x)
 have hrf:∀ (x:List Fg) q,Zam q (x.map rowG)=x.map rowG:=fun x q=>Zaa q _ (Zaf x)
 have hRf:=Zu2 fs re lo f ls (by omega) h
 have hPl:=cPlace f g a ls h
 have hrs1:=hrs ls
 have hrf1:=hrf fs
 have hrg1:=hrf gs
 have hlg:(gs.map rowG).length=gs.length:=List.length_map ..
 have hgg:=fun i hi=>Zd4 gs (i:=i) hi
 by_cases hE:Zcj fs re lo f ls=0
 · obtain⟨hB,hE',hF,hP⟩:=Zed hE
   subst hF
   rw [hE] at hRf
   have hNo:∀ e:Int,enE fs gs re lo g a ls=e→e≠0→K (erT e) ⟨[],1⟩:=fun e h1 h2=>hK _ _ (by rw [Z3z hE h1 h2]; rfl)
   by_cases hg0:gs=[]
   · have hK2:=hNo 2 (by unfold enE; rw [if_pos hg0]) (by decide)
     clear hNo hK
     subst hg0
     unfold frV cV plV erT at *
     simp
     refine Zai hRf ?_
     simp
     exact endK hK2 [] (by simp)
   have hgp:0<gs.length:=List.length_pos_iff.2 hg0
   have hgn:¬gs.length=0:=by omega
   by_cases hpl:okP fs.length g a ls
   · rw [decide_eq_true hpl] at hPl
     have hbad:∀ e:Int,enE fs gs re lo g a ls=e→e≠0→K (.tuple [.agg [.nilSl,.int .i64 0,.int .i64 0],.agg [.int .i64 0,.nilSl],.int .i64 e]) ⟨[],1⟩:=hNo
     have hgood:enE fs gs re lo g a ls=0 → ∀ r sm,Zaj sm.get 5 r=some (.tuple [frV (enF fs gs g.toNat gs.length) re lo,cV (fs.length+gs.length) (enD g a ls gs.length),.int .i64 0])→K r sm:=fun h1 r sm h2=>hK r sm (by rw [enT_ok hE h1]; exact h2)
     clear hK hNo
     have hrows:=hgg
     unfold plV at hPl ⊢
     have hcv:∀ (f:Int) (x:List Lt),cV f x=.agg [.int .i64 f,.imm (x.map rowL)]:=fun _ _=>rfl
     have hfv:∀ (x:List Fg),frV x re lo=.agg [.imm (x.map rowG),.int .i64 re,.int .i64 lo]:=fun _=>rfl
     rw [hfv,hcv] at hRf
     rw [hcv] at hPl
     rw [hfv,hcv]
     simp
     refine Zai hRf ?_
     simp [hg0,hgn,hlg]
     refine Zai hPl ?_
     simp
     refine Zay (α:=Nat) (fun i=>[(12,.int .i64 i),(9,.ptr 5 0 0),(8,.ptr 4 0 0),(7,.ptr 3 0 0),(5,.ptr 2 0 0),(4,.ptr 1 0 0),(2,.imm (gs.map rowG))])
      (fun i=>⟨[(1,.cells 3 [[.imm (fs.map rowG),.int .i64 re,.int .i64 lo]]),(2,.cells 2 [[.int .i64 fs.length,.imm (ls.map rowL)]]),(3,.cells 2 [[.int .i64 g,.int .i64 a]]),(4,.cells 3 [[.nilSl,.int .i64 0,.int .i64 0]]),(5,.cells 2 [[.int .i64 0,.nilSl]])],6⟩)
      (fun i=>gs.length - i) (fun i=>i≤gs.length ∧ ∀ j,j<i→(fgAt gs j).p=perF gs) 0 [(1,1),(2,2),(3,3),(4,4),(5,5)] (by simp [hrs1,hrf1,hrg1]) (by simp) ?_
     rintro i ⟨hi,hI⟩ N hN
     try simp only at hi hN ⊢
     by_cases hlt:i<gs.length
     · have hw:IntKind.i64.wrap ((i:Int)+1)=(i:Int)+1:=Zad (by omega) (by omega)
       have hg:=hgg i hlt
       obtain⟨hgl',hg2⟩:=getE hg
       have hh:=hgg 0 hgp
       obtain⟨hhl',hh2⟩:=getE hh
       have hN':=hN (i+1)
       rw [Int.natCast_add,Int.natCast_one] at hN'
       unfold perF at hN' hI
       unfold rowG at *
       by_cases hp:(fgAt gs i).p=(fgAt gs 0).p
       · simp [hlt,hlg,hgp,hg,hg2,hh,hh2,hp,hw]
         refine hN' [(1,1),(2,2),(3,3),(4,4),(5,5)] _ _ (by omega) ⟨by omega,fun j hj=>?_⟩ (by simp [hrs1,hrf1,hrg1])
         by_cases hji:j=i
         · subst hji; exact hp
         · exact hI j (by omega)
       · have hK2:=hbad 2 (by
          unfold enE
          rw [if_neg hg0,if_pos (mixP_iff.2 ⟨i,hlt,hp⟩)]) (by decide)
         simp [hlt,hlg,hgp,hg,hg2,hh,hh2,hp,hw]
         exact endK hK2 [] (by simp)
     · have hie:i=gs.length:=by omega
       subst hie
       have hmx:mixP gs=false:=by
        rw [Bool.eq_false_iff]
        intro hm
        obtain⟨j,h1,h2⟩:=mixP_iff.1 hm
        exact h2 (hI j h1)
       clear hN hI hPl hRf
       obtain⟨G,hGe⟩:∃ G:Nat,g=G:=⟨g.toNat,by have:=hpl.1; omega⟩
       have hG:G≤fs.length:=by have:=hpl.2.1; omega
       have hGt:g.toNat=G:=by omega
       have hlf:(fs.map rowG).length=fs.length:=List.length_map ..
       have hP3:((fs.map rowG).take G).all (fun x=>x.length == 3)=true:=by rw [← List.map_take]; exact Zsk _
       have hD3:((fs.map rowG).drop G).all (fun x=>x.length == 3)=true:=by rw [← List.map_drop]; exact Zsk _
       have hF3:=Zsk fs
       have hg3:=Zsk gs
       have hA:(fs.map rowG).take G++(gs.map rowG++(fs.map rowG).drop G)=(enF fs gs g.toNat gs.length).map rowG:=by
        rw [hGt]; unfold enF; rw [List.take_length,List.map_append,List.map_append,List.map_take,List.map_drop]
       have hPn:((fs.map rowG).take G).length=G:=by simp; omega
       have hDn:((fs.map rowG).drop G).length=fs.length - G:=by simp
       have hPc:Zap ((fs.map rowG).take G)=true:=by rw [← List.map_take]; exact Zaf _
       have hDc:Zap ((fs.map rowG).drop G)=true:=by rw [← List.map_drop]; exact Zaf _
       have hgne:gs.map rowG≠[]:=by simpa using hg0
       have hFl:=Zec (fs:=fs) (gs:=gs) (G:=g.toNat) (d:=gs.length) (Nat.le_refl _)
       have hV:=Zs4 (k:=3) (n:=fs.length+gs.length) (Zx2 (enF fs gs g.toNat gs.length) re lo (by omega)) (by rw [List.length_map,hFl])
       have hfrb:frB (enF fs gs g.toNat gs.length) re lo=false→enE fs gs re lo g a ls=2:=fun hb=>by
        unfold enE
        rw [if_neg hg0,if_neg (by simp [hmx])]
        by_cases hq:¬(okP fs.length g a ls∧(fs.length:Int)+gs.length≤40)
        · rw [if_pos hq]
        · rw [if_neg hq,if_pos hb]
       have htail:=fun hb=>tailR fs gs re lo g a ls hgl h hE' hg0 hmx hpl hb hbad hgood
       have hK2:=fun hb=>hbad 2 (hfrb hb) (by decide)
       clear hgood hbad hgg hrows hcv hfv hfrb
       unfold reS reM at htail
       have hrA:∀ q,Zam q ((enF fs gs g.toNat gs.length).map rowG)=(enF fs gs g.toNat gs.length).map rowG:=fun q=>Zaa q _ (Zaf _)
       generalize frB (enF fs gs g.toNat gs.length) re lo=b at *
       generalize (enF fs gs g.toNat gs.length).map rowG=A at *
       generalize fs.map rowG=rowsF at *
       generalize gs.map rowG=rowsg at *
       subst hGe
       obtain⟨P,hP'⟩:∃ P,rowsF.take G=P:=⟨_,rfl⟩
       obtain⟨D,hD'⟩:∃ D,rowsF.drop G=D:=⟨_,rfl⟩
       rw [hP'] at hP3 hA hPn hPc
       rw [hD'] at hD3 hA hDn hDc
       have hrP:∀ q,Zam q P=P:=fun q=>Zaa q _ hPc
       have hrD:∀ q,Zam q D=D:=fun q=>Zaa q _ hDc
       have hbb:G+gs.length+(fs.length - G)=fs.length+gs.length:=by omega
       have q1:G≤1048576:=by omega
       have q2:gs.length≤1048576:=by omega
       have q3:G+gs.length≤1048576:=by omega
       have q4:fs.length+gs.length≤1048576:=by omega
       have q5:¬G+gs.length≤G:=by omega
       have hDt:List.drop G (List.take fs.length rowsF)=D:=by rw [← hlf,List.take_length]; exact hD'
       have hPt:List.take G P=P:=by rw [← hPn,List.take_length]
       have hPg:List.take (G+gs.length) (P++rowsg)=P++rowsg:=List.take_of_length_le (by simp [hPn,hlg])
       have hgg':List.take gs.length rowsg=rowsg:=by rw [← hlg,List.take_length]
       by_cases hP0:P=[]
       · subst hP0
         have hG0:G=0:=by simpa using hPn.symm
         subst hG0
         by_cases hD0:D=[]
         · subst hD0
           have q6:fs.length=0:=by simpa using hDn.symm
           have q7:fs=[]:=List.length_eq_zero_iff.1 q6
           have hA2:rowsg=A:=by simpa using hA
           have hgd:List.drop gs.length rowsg=[]:=by rw [← hlg,List.drop_length]
           rw [q6,Nat.zero_add] at hV htail
           subst hA2
           simp [hlg,hlf,hG,hP',hD',hDt,hPt,hPg,hgg',Zk8,hF3,hP3,hD3,hg3,hgne,Zan,hPn,hDn,hbb,q1,q2,q3,q4,q5,q6,FT.indep,q7,hgd]
           refine Za0 hV [(1,26)] (by simp) (by simp [hrA]) (by simp) ?_
           rintro r sm ⟨rfl,rfl⟩
           cases b with
           | false=>
            simp
            exact endK (hK2 rfl) [] (by simp)
           | true=>
            simp [hrA]
            refine htail rfl [(6,26),(7,15),(8,39),(3,3),(4,4),(5,5)] _ _ ?_
            simp [enD,lfA,hrg1,hrA,hrs1]
         · have q6:¬fs.length≤0:=fun hh=>hD0 (List.length_eq_zero_iff.1 (by omega))
           have q8:gs.length+fs.length≤1048576:=by omega
           have q9:¬gs.length+fs.length≤gs.length:=by omega
           have hA2:rowsg++D=A:=by simpa using hA
           rw [Nat.add_comm] at hV htail
           simp [hlg,hlf,hG,hP',hD',hDt,hPt,hPg,hgg',Zk8,hF3,hP3,hD3,hg3,hgne,Zan,hPn,hDn,hbb,q1,q2,q3,q4,q5,q6,hA2,FT.indep,hD0,q8,q9]
           refine Za0 hV [(1,32)] (by simp) (by simp [hrA]) (by simp) ?_
           rintro r sm ⟨rfl,rfl⟩
           cases b with
           | false=>
            simp
            exact endK (hK2 rfl) [] (by simp)
           | true=>
            simp [hrA]
            refine htail rfl [(6,32),(7,15),(8,39),(3,3),(4,4),(5,5)] _ _ ?_
            simp [enD,lfA,hrg1,hrA,hrs1]
       · by_cases hD0:D=[]
         · have q6:fs.length=G:=by
            have:=congrArg List.length hD0
            rw [hDn] at this
            simp at this
            omega
           have hA2:P++rowsg=A:=by rw [hD0] at hA; simpa using hA
           have hdP:List.drop G P=[]:=by rw [← hPn,List.drop_length]
           have hdPg:List.drop (G+gs.length) A=[]:=by rw [← hA2]; exact List.drop_of_length_le (by simp [hPn,hlg])
           have hAl:A.length=G+gs.length:=by rw [← hA2,List.length_append,hPn,hlg]
           have hAt:List.take (G+gs.length) A=A:=by rw [← hAl,List.take_length]
           subst hD0
           rw [q6] at hV htail
           simp [hlg,hlf,hG,hP',hD',hDt,hPt,hPg,hgg',Zk8,hF3,hP3,hD3,hg3,hgne,Zan,hPn,hDn,hbb,q1,q2,q3,q4,q5,q6,hA2,FT.indep,hP0,hdP,hdPg,hAl,hAt]
           refine Za0 hV [(1,26)] (by simp) (by simp [hrA]) (by simp) ?_
           rintro r sm ⟨rfl,rfl⟩
           cases b with
           | false=>
            simp
            exact endK (hK2 rfl) [] (by simp)
           | true=>
            simp [hrA]
            refine htail rfl [(6,26),(7,15),(8,39),(3,3),(4,4),(5,5)] _ _ ?_
            simp [enD,lfA,hrg1,hrA,hrs1]
         · have q6:¬fs.length≤G:=fun hh=>hD0 (List.length_eq_zero_iff.1 (by omega))
           simp [hlg,hlf,hG,hP',hD',hDt,hPt,hPg,hgg',Zk8,hF3,hP3,hD3,hg3,hgne,Zan,hPn,hDn,hbb,q1,q2,q3,q4,q5,q6,hA,FT.indep,hP0,hD0]
           refine Za0 hV [(1,32)] (by simp) (by simp [hrA]) (by simp) ?_
           rintro r sm ⟨rfl,rfl⟩
           cases b with
           | false=>
            simp
            exact endK (hK2 rfl) [] (by simp)
           | true=>
            simp [hrA]
            refine htail rfl [(6,32),(7,15),(8,39),(3,3),(4,4),(5,5)] _ _ ?_
            simp [enD,lfA,hrg1,hrA,hrs1]
   · have hK2:=hNo 2 (by
      unfold enE
      rw [if_neg hg0]
      split
      · rfl
      · rw [if_pos (fun hh=>hpl hh.1)]) (by decide)
     rw [decide_eq_false hpl] at hPl
     clear hNo hK
     unfold frV cV plV erT at *
     simp
     refine Zai hRf ?_
     simp [hg0,hgn,hlg]
     refine Zai hPl ?_
     simp
     exact endK hK2 [] (by simp)
 · have hKv:=hK (erT (Zcj fs re lo f ls)) ⟨[],1⟩ (by unfold enT; rw [if_pos hE]; rfl)
   clear hK
   unfold frV cV plV erT at *
   simp
   refine Zai hRf ?_
   simp [hE]
   exact endK hKv [] (by simp)
end Go.Known
end
section
namespace Go.Known
open Go Go.AE Go.Proofs
open Go.Plain
set_option maxHeartbeats 4000000 in
theorem c35w (l:List Nat) (hl:l.length≤10000):PCall Tryz.prog 34 [imV (nums l),imV (nums l)] (.bool true):=by
 by_cases h0:l=[]
 · subst h0
   show PCall Tryz.prog 34 [.nilSl,.nilSl] (.bool true)
   refine Zbr hm Tryz.func34 cf35 rfl rfl rfl trivial fun K hK=>?_
   simp
   refine Zay (α:=Unit) (fun _=>[(5,.int .i64 0),(0,.nilSl)]) (fun _=>⟨[],1⟩) (fun _=>0) (fun _=>True) () [] (by simp) trivial ?_
   intro _ _ N hN
   simp
   exact endK hK [] (by simp)
 · have:=c35e l hl
   rw [Z2a (rows:=nums l) (by simpa [nums] using h0)] at this ⊢
   exact this
set_option maxRecDepth 100000 in
set_option maxHeartbeats 16000000 in
theorem cEntr (fs gs:List Fg) (re lo f g a:Int) (ls:List Lt):PCall Tryz.prog 7 [frV fs re lo,cV f ls,.imm (gs.map rowG),plV g a] (.bool true):=by
 refine Zbr hm Tryz.func7 Z1r rfl rfl (by simp [Zae,AVal.closed,Zaf,Zab,frV,plV]) trivial fun K hK=>?_
 have hh:=cHands fs re lo f ls
 have hk:=Z3g
 have hrf1:∀ q,Zam q (fs.map rowG)=fs.map rowG:=fun q=>Zaa q _ (Zaf _)
 have hlg:(gs.map rowG).length=gs.length:=List.length_map ..
 by_cases hs:¬(fs.length≤45∧ls.length≤40)
 · have hb:(decide (fs.length≤45)&&decide (ls.length≤40))=false:=by
    rw [Bool.eq_false_iff]
    simpa using hs
   rw [hb] at hh
   unfold frV cV plV at *
   simp
   refine Zai hh ?_
   simp
   refine Zai hk ?_
   simp
   exact endK hK [] (by simp)
 have hb:(decide (fs.length≤45)&&decide (ls.length≤40))=true:=by
  have:fs.length≤45∧ls.length≤40:=Decidable.not_not.1 hs
  simp [this]
 rw [hb] at hh
 by_cases hg:45<gs.length
 · have hg':(45:Int)<gs.length:=by omega
   unfold frV cV plV at *
   simp
   refine Zai hh ?_
   simp [hlg,hg,hg']
   refine Zai hk ?_
   simp
   exact endK hK [] (by simp)
 have hg':¬(45:Int)<gs.length:=by omega
 have hPe:=Z1i fs re lo f ls (by omega) (by omega)
 have hRf:=Zu2 fs re lo f ls (by omega) (by omega)
 have hRP:=Zx8 fs re lo f ls (by omega) (by omega)
 have hEq:=c35w (perL fs ls 9) (by have:=Zhg fs ls 9; omega)
 have hEn:=cEnter fs gs re lo f g a ls (by omega) (by omega) (by omega)
 have hRE:=Z3h fs gs re lo f g a ls (by omega) (by omega) (by omega)
 have hsf0:=Zs8
 have h12z:=c12zL
 unfold peT at hPe
 unfold enT at hEn hRE
 by_cases hE:Zcj fs re lo f ls=0
 · rw [if_neg (by simp [hE])] at hPe hEn hRE
   rw [hE] at hRf
   have hRP:=hRP hE
   have hpn:renL (fun _=>0) []=[]:=rfl
   have hrV:=Zy2 (Zbc (perL fs ls 9))
   have hV1:(imV (nums (perL fs ls 9))).one=true:=by unfold imV; split<;>rfl
   have hV2:(imV (nums (perL fs ls 9))).cells=some [imV (nums (perL fs ls 9))]:=by unfold imV; split<;>rfl
   have hVl:Zav (imV (nums (perL fs ls 9)))=some (perL fs ls 9).length:=by
    unfold imV
    split
    · rename_i h; rw [← Zbt,h]; rfl
    · simp [Zav,Zbt]
   by_cases hl:enE fs gs re lo g a ls=0
   · rw [if_neg (by simp [hl])] at hEn hRE
     have hsf:=Zwc (enF fs gs g.toNat gs.length) re lo (by rw [Zec (Nat.le_refl _)]; omega)
     have h12:=c12v (fs.length+gs.length) (fs.length+gs.length) (enD g a ls gs.length) (enD g a ls gs.length) (by rw [Zfg]; omega) (by rw [Zfg]; omega)
     rw [decide_eq_true rfl,decide_eq_true rfl,Bool.true_and] at h12
     generalize imV (nums (perL fs ls 9))=V at *
     unfold frV cV plV at *
     simp
     refine Zai hh ?_
     simp [hlg,hg,hg']
     refine Zai hPe ?_
     simp
     refine Zai hRf ?_
     simp
     refine Zai hRP ?_
     simp
     refine Zai hEq ?_
     simp
     refine Zai hEn ?_
     simp
     refine Zai hRE ?_
     simp
     refine Zai hsf ?_
     simp
     refine Zai h12 ?_
     simp
     refine Zai hk ?_
     simp
     exact endK hK [] (by simp)
   · rw [if_pos (by simpa using hl)] at hEn hRE
     generalize imV (nums (perL fs ls 9))=V at *
     unfold frV cV plV at *
     simp
     refine Zai hh ?_
     simp [hlg,hg,hg']
     refine Zai hPe ?_
     simp
     refine Zai hRf ?_
     simp
     refine Zai hRP ?_
     simp
     refine Zai hEq ?_
     simp
     refine Zai hEn ?_
     simp
     refine Zai hRE ?_
     simp
     refine Zai hsf0 ?_
     simp
     refine Zai h12z ?_
     simp
     refine Zai hk ?_
     simp
     exact endK hK [] (by simp)
 · rw [if_pos (by simpa using hE)] at hPe hEn hRE
   unfold frV cV plV at *
   simp
   refine Zai hh ?_
   simp [hlg,hg,hg']
   refine Zai hPe ?_
   simp
   refine Zai hRf ?_
   simp [hE]
   refine Zai hEn ?_
   simp
   refine Zai hRE ?_
   simp
   refine Zai hsf0 ?_
   simp
   refine Zai h12z ?_
   simp
   refine Zai hk ?_
   simp
   exact endK hK [] (by simp)
end Go.Known
end
section
namespace Go.Known
open Go Go.AE Go.Proofs
open Go.Plain
open Go.ChangeShapes Go.WideShapes Go.RowKit Go.Deep
variable {H:Type} {enc:TypeId×Value→H} {w:World} {base:Nat} {spare:Nat→Bool} {held:Bool}
set_option maxRecDepth 100000 in
theorem Zzg {v:Value} {d:DataW H} {p:List MemPlace} {b:Nat} (hok:Value.okWide Tryz.prog w .any b 48 v) (h:DataW.Trod enc Tryz.prog w 0 (fun _=>true) held 48 v d p):∃ gs:List Fg,∀ ρ,R (allP w) ρ (.imm (gs.map rowG)) v:=by
 obtain⟨a,len,cap,rfl⟩:=okWide_slice Tryz.underlying48 hok
 obtain⟨fuel,h⟩:=h
 exact Zuw h
set_option maxRecDepth 100000 in
theorem Z4v {v:Value} {d:DataW H} {p:List MemPlace} {b:Nat} (hok:Value.okWide Tryz.prog w .any b 59 v) (h:DataW.Trod enc Tryz.prog w 0 (fun _=>true) held 59 v d p):∃ g a:Int,∀(Φ:Pers) ρ,R Φ ρ (plV g a) v:=by
 unfold Value.okWide at hok
 rw [Tryz.underlying59] at hok
 obtain⟨cs,rfl,hsz,_⟩:=hok
 obtain⟨fuel,h⟩:=h
 have hc:Tryz.prog.cellsOf 59=2:=by kernel_rfl
 have h3:Tryz.prog.cellsOf 3=1:=by kernel_rfl
 rw [hc] at hsz
 obtain⟨xs,n,_,_,hl,hlen,hf⟩:=DataW.trod_struct Tryz.underlying59 h
 obtain⟨cl⟩:=cs
 match cl,hsz with
 | [a0,a1],_=>
  match xs,hlen with
  | [y0,y1],_=>
   have e0:DataW.trod enc Tryz.prog w 0 (fun _=>true) held n 3 (([a0,a1].drop 0).take (Tryz.prog.cellsOf 3))=some y0:=hf 0 _ rfl
   rw [h3] at e0
   have e1:DataW.trod enc Tryz.prog w 0 (fun _=>true) held n 3 (([a0,a1].drop 1).take (Tryz.prog.cellsOf 3))=some y1:=hf 1 _ rfl
   rw [h3] at e1
   obtain⟨k0,q0,_,_⟩:=DataW.trod_int (t:=3) (k:=.i64) Tryz.underlying3 e0
   obtain⟨k1,q1,_,_⟩:=DataW.trod_int (t:=3) (k:=.i64) Tryz.underlying3 e1
   have r0:a0=.int .i64 k0:=by simpa using q0
   have r1:a1=.int .i64 k1:=by simpa using q1
   subst r0 r1
   refine⟨k0,k1,fun Φ ρ=>.agg _ _ rfl fun i x v hx hv=>?_⟩
   match i,hx,hv with
   | 0,hx,hv=>cases hx; cases hv; exact .int _ _
   | 1,hx,hv=>cases hx; cases hv; exact .int _ _
   | i+2,hx,hv=>simp at hx
theorem Zwh {v0 v1 v2 v3:Value} {fs gs:List Fg} {re lo f g a:Int} {ls:List Lt} (h0:∀ ρ,R (allP w) ρ (frV fs re lo) v0) (h1:∀ ρ,R (allP w) ρ (cV f ls) v1) (h2:∀ ρ,R (allP w) ρ (.imm (gs.map rowG)) v2) (h3:∀ (Φ:Pers) ρ,R Φ ρ (plV g a) v3) :
 Calls Tryz.prog 7 #[v0,v1,v2,v3] w fun e w'=>e=.returned (.bool true)∧Below w.heap.size w w':=by
 have hc:=cEntr fs gs re lo f g a ls ⟨fun _=>none,1⟩ []
 refine(hc.2 ⟨w,fun _=>none,allP w⟩ (allP w) (fun _=>none) #[v0,v1,v2,v3] w ⟨⟨Below.refl _ _,fun B o hB=>(by cases hB)⟩,fun B c hB=>Z32 hB,fun b x hx=>(by cases hx),fun b b' x x' l l' h1=>(by cases h1),fun b l hb=>(by cases hb),fun B c hB=>.inl hB⟩
  ⟨rfl,fun i x u hx hu=>?_⟩ (fun b hb=>by simp at hb)).mono fun e w' he=>?_
 · match i,hx,hu with
   | 0,hx,hu=>cases hx; cases hu; exact h0 _
   | 1,hx,hu=>cases hx; cases hu; exact h1 _
   | 2,hx,hu=>cases hx; cases hu; exact h2 _
   | 3,hx,hu=>cases hx; cases hu; exact h3 _ _
   | i+4,hx,hu=>simp at hx
 · obtain⟨u,r,m',Φ',ρ',rfl,_,_,hr,hRr,_,rfl,_⟩:=he
   refine⟨?_,hr.base.below⟩
   cases hRr
   rfl
end Go.Known
end
