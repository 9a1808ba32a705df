/- Part 44 of the proof: Ev. -/
import Derived.Test.YtilmpmlkndfbjaaGreatDoorK43
set_option linter.all false
namespace Go.Ab
open Go Go.AE Go.Proofs
open Go.Plain
attribute [local simp] C8 D6 D3 B4 B0 C6 D7 C7 D9 B7 C3 Gk E5 B6 D8 C2 C1
theorem Zzz{X:List Nd}{j:Nat}(h:j<X.length):(BM X)[j]? = some [.bool (X.getD j (false,false)).1]∧(BL X)[j]? = some [.bool (X.getD j (false,false)).2]:=by
 unfold BM BL;rw[gM,gM,gE h,List.getD,gE h];exact⟨rfl,rfl⟩
theorem yo(X:List Nd):(BM X).length=X.length∧(BL X).length=X.length:=by simp[BM,BL]
theorem ZI{gs:List Nat}{g s c m:Nat}(h:(gs.take (g+1)).sum=s+c)(hm:gs.sum=m):c≤m:=by
 have:gs.sum=(gs.take (g+1)).sum+(gs.drop (g+1)).sum:=by rw[← List.sum_append,List.take_append_drop]
 omega
set_option maxRecDepth 100000 in
set_option maxHeartbeats 16000000 in
theorem td(m:Nat)(gs:List Nat)(G:List Int)(hG:∀ i,i<gs.length→(Z1 G)[i]? = some [.int .i64 (gs.getD i 0:Nat)])(Dd:gs.length=G.length)(Bd:gs.sum=m)(Oa:gs.length≤1000)(X:List Nd)(L:List (Nat×Nat))(h:Gt m X L)(hb:2*m+4*X.length≤1000) :
 Cc Tryz.prog 31 [.agg [.int .i64 m,.sl 1 0 (2*m+4*X.length),AH 2 (BM X),AH 3 (BL X)],.An (Z1 G),.int .i64 X.length] ⟨(1,.cells 1 (Z1 (Cr (2*m+4*X.length) L))) :: AF 2 1 (BM X) (AF 3 1 (BL X) []),4⟩ fun r mm=>
  r=.sl 4 0 (Ft m X L)∧mm=⟨[(4,.cells 6 ((Dr m (Ar 0 gs) X L (Ft m X L) (Ft m X L)).map Ad))],5⟩:=by
 refine GV hm [] Tryz.func31 s4 rfl rfl fun K hK=>?_
 obtain⟨hT0,hTz,hTf,hTl⟩:=ZH h;obtain⟨T,hT⟩:∃ T,T=Ft m X L:=⟨_,rfl⟩
 rw[← hT]at hK hT0 hTz hTf hTl;have hJJ:∀ q (l:List Int),Z3 q (Z1 l)=Z1 l:=fun q l=>X7 q _ (N9 l)
 have hOO:∀ q,Z3 q (BM X)=BM X:=fun q=>X7 q _ (OH X).1
 have hLL:∀ q,Z3 q (BL X)=BL X:=fun q=>X7 q _ (OH X).2
 have hnn:∀ q (l:List Nat),Z3 q (Z0 l)=Z0 l:=fun q l=>Y0 q l
 have As:∀ q (l:List Lt),Z3 q (l.map Ad)=l.map Ad:=fun q l=>X7 q _ (R7 l)
 have hs1:∀ (c:Nat) (x:List Aa),AH c [x]=.sl c 0 1:=fun _ _=>rfl
 have Bg:∀ (c k:Nat) (x:List Aa) (r:List (Nat×Ag)),AF c k [x] r=(c,.cells k [x]) :: r:=fun _ _ _ _=>rfl
 have hJget:∀ e,e<2*m+4*X.length→(Z1 (Cr (2*m+4*X.length) L))[e]? = some [.int .i64 ((Bk L e:Nat):Int)]:=fun e he=>
  Z7w h.nd (fun p hp=>⟨(h.en _).2 (Bi.2 ⟨p,hp,.inl rfl⟩),(h.en _).2 (Bi.2 ⟨p,hp,.inr rfl⟩)⟩) ((h.en e).1 he)
 have hJr:∀ q,Z3 q (Z1 (Cr (2*m+4*X.length) L))=Z1 (Cr (2*m+4*X.length) L):=fun q=>hJJ q _
 have hJl:(Z1 (Cr (2*m+4*X.length) L)).length=2*m+4*X.length:=by rw[A8,OL]
 have hGr:∀ q,Z3 q (Z1 G)=Z1 G:=fun q=>hJJ q _
 have hGl:=A8 G;obtain⟨hOl,hWl⟩:=yo X;have hOat:=fun j (hj:j<X.length)=>Zzz (X:=X) hj
 have hw1:IntKind.i64.wrap (2*(X.length:Int))=2*X.length:=S8 (by omega) (by omega)
 have hXb:2*X.length≤1048576:=by omega
 have hXb2:8*(2*X.length)≤1048576:=by omega
 have hmb:m≤500:=by omega
 have hXz:(0:Int)≤2*(X.length:Int):=by omega
 have hXt:(2*(X.length:Int)).toNat=2*X.length:=by omega
 generalize Z1 (Cr (2*m+4*X.length) L)=J at *;generalize Z1 G=IG at *;simp[hw1,hXb,hXb2,hXz,hXt];refine T6 (α:=Nat) (fun t=>[(1,.An IG),(3,.ptr 4 0 0),(7,AH 6 ((Dr m (Ar 0 gs) X L t 0).map Ad)),(8,.sl 5 0 (2*X.length)),(9,.int .i64 (Al m L t)),(10,.bool (decide (t=0)))])
  (fun t=>⟨[(4,.cells 4 [[.int .i64 m,.sl 1 0 (2*m+4*X.length),AH 2 (BM X),AH 3 (BL X)]]),(1,.cells 1 J),(5,.cells 1 (Z0 (DP m L X.length t)))]++AF 6 6 ((Dr m (Ar 0 gs) X L t 0).map Ad) (AF 2 1 (BM X) (AF 3 1 (BL X) [])),7⟩) (fun t=>T - t) (fun t=>t≤T) 0 [(5,9)]
  ?_ (by omega) ?_
 ·have e0:(Dr m (Ar 0 gs) X L 0 0).map Ad=[]:=rfl;have e1:Al m L 0=0:=rfl;have e2:DP m L X.length 0=List.replicate (2*X.length) 0:=rfl;rw[e0,e1,e2,TB];have hrp:∀ q,Z3 q (List.replicate (2*X.length) [Aa.int .i64 0])=List.replicate (2*X.length) [.int .i64 0]:=fun q=>by rw[HE]; simp[U3,Aa.AA]
  simp +contextual [hJr,hOO,hLL,hGr,hrp]
 ·intro t ht N' hN;have hLR:=fun q=>As q (Dr m (Ar 0 gs) X L t 0)
  have hEr:=fun q=>hnn q (DP m L X.length t)
  have CP:((Dr m (Ar 0 gs) X L t 0).map Ad).length=t:=by rw[lM,Xd]
  by_cases hend:T=t
  ·subst hend;have hRL0:¬(Dr m (Ar 0 gs) X L T 0).map Ad=[]:=fun e=>by rw[e]at CP; simp at CP; omega
   have hEl:=Sf m L X.length T;have hEr':=fun q=>hnn q (DP m L X.length T)
   have hEg:=fun i (hi:i<2*X.length)=>MI (l:=DP m L X.length T) (i:=i) (by omega)
   have hNl:(Z0 (DP m L X.length T)).length=2*X.length:=by rw[O5,hEl]
   clear hN;have hT1:¬T=0:=by omega
   have hKb:=hK _ _ ⟨rfl,rfl⟩;clear hK;obtain⟨fr,hfr⟩:∃ fr,fr=fun x=>(Dr m (Ar 0 gs) X L T x).map Ad:=⟨_,rfl⟩
   have hfl:∀ x,(fr x).length=T:=fun x=>by rw[hfr]; simp[Xd]
   have hfre:∀ x q,Z3 q (fr x)=fr x:=fun x q=>by rw[hfr]; exact As q _
   have hfg:∀ x,x<T→(fr x)[x]? = some (Ad (Gi m (Ar 0 gs) X (Al m L x) 0)):=fun x hx=>by
    rw[hfr];show((Dr m (Ar 0 gs) X L T x).map Ad)[x]? = _;rw[gM,zn hx];rfl
   have hfs1:∀ x,Al m L x<2*m→fr (x+1)=fr x:=fun x hp=>by
    rw[hfr];show(Dr m (Ar 0 gs) X L T (x+1)).map Ad=_;rw[Z8l hp]
   have hfs2:∀ x,x<T→fr (x+1)=(fr x).set x (Ad (Gi m (Ar 0 gs) X (Al m L x) (Ve m X (DP m L X.length T) (Al m L x)))):=fun x hx=>by
    rw[hfr];show(Dr m (Ar 0 gs) X L T (x+1)).map Ad=_;rw[yw hx,List.map_set]
   have hfK:(Dr m (Ar 0 gs) X L T T).map Ad=fr T:=by rw[hfr]
   have hf0:(Dr m (Ar 0 gs) X L T 0).map Ad=fr 0:=by rw[hfr]
   rw[hfK]at hKb;rw[hf0]at hRL0 CP ⊢;rw[hTz];unfold Ve at hfs2;generalize DP m L X.length T=ENL at *;generalize hEN:Z0 ENL=EN at *;clear hfr hfK hf0 hLR hEr;simp[Y4 hRL0,Z9 hRL0,hRL0,hT1,CP];have hxl:∀ x,Bh m (Al m L x)<X.length∨Al m L x<2*m:=fun x=>by
    have:=P8 h x;unfold Bh;omega
   refine T6 (α:=Nat) (fun x=>[(3,.ptr 4 0 0),(7,.sl 6 0 T),(8,.sl 5 0 (2*X.length)),(15,.int .i64 x)])
    (fun x=>⟨[(4,.cells 4 [[.int .i64 m,.sl 1 0 (2*m+4*X.length),AH 2 (BM X),AH 3 (BL X)]]),(5,.cells 1 EN),(6,.cells 6 (fr x))]++AF 2 1 (BM X) (AF 3 1 (BL X) []),7⟩) (fun x=>T - x) (fun x=>x≤T) 0 []
    (by simp +contextual [hOO,hLL,hEr',hfre]) (by omega) ?_
   intro x hx N2 hN2;have hflx:=hfl x;have hfrx:=hfre x;by_cases he:¬x=T
   ·have hxT:x<T:=by omega
    have hxi:(x:Int)<T:=by omega
    have hg:=hfg x hxT;have hN3:=hN2 (x+1);have hw:=Y1 ((x:Int)+1) ((x+1:Nat):Int);by_cases hp:Al m L x<2*m
    ·rw[hfs1 x hp]at hN3;have hfgp:Gi m (Ar 0 gs) X (Al m L x) 0=AG ((Ar 0 gs).getD (Al m L x / 2) (0,0)):=by unfold Gi; rw[iP hp]
     rw[hfgp]at hg;generalize (Ar 0 gs).getD (Al m L x / 2) (0,0)=pp at *;simp only[Ad,AG]at hg;obtain⟨_,hg2⟩:=Y6 hg;have hxl2:x<(fr x).length:=by omega
     generalize fr x=R at *;clear hfl hfre hfg hfs1 hfs2 hN2;simp[hflx,hxT,hxi,hg,hg2,hw];exact hN3 [] _ _ (by omega) (by omega) (by simp +contextual [hOO,hLL,hEr',hfrx])
    ·have hjl:=(hxl x).resolve_right hp;have Ck:=fun q=>hfre (x+1) q
     rw[hfs2 x hxT]at hN3 Ck;have hfgp:∀ z,Gi m (Ar 0 gs) X (Al m L x) z=⟨2,0,0,((Bh m (Al m L x)+1:Nat):Int),z,((X.getD (Bh m (Al m L x)) (false,false)).1 == (CG m (Al m L x) % 2 == 0)) != (X.getD (Bh m (Al m L x)) (false,false)).2⟩:=fun z=>by unfold Gi; rw[iN hp]
     rw[hfgp]at hg hN3 Ck;obtain⟨ho1,_⟩:=hOat _ hjl;obtain⟨_,ho3⟩:=Y6 ho1;generalize (((X.getD (Bh m (Al m L x)) (false,false)).1 == (CG m (Al m L x) % 2 == 0)) != (X.getD (Bh m (Al m L x)) (false,false)).2)=ov at *;generalize (X.getD (Bh m (Al m L x)) (false,false)).1=o at *;generalize Bh m (Al m L x)=j at *;have hg1:=hEg (2*j) (by omega)
     have hg3:=hEg (2*j+1) (by omega)
     generalize ENL.getD (2*j) 0=e1 at *;generalize ENL.getD (2*j+1) 0=e2 at *;obtain⟨_,hg12⟩:=Y6 hg1;obtain⟨_,hg32⟩:=Y6 hg3;have hsg:=vn e1 e2 o;generalize FA e1 e2 o=sg at *;simp only[Ad]at hg hN3 Ck;obtain⟨_,hg2⟩:=Y6 hg;have hwj:=Y1 (((j+1:Nat):Int) - 1) (j:Int);have hw2:=Y1 (2*(j:Int)) ((2*j:Nat):Int);have hw3:=Y1 (((2*j:Nat):Int)+1) ((2*j+1:Nat):Int);have hl1:2*j<2*X.length:=by omega
     have hl2:2*j+1<2*X.length:=by omega
     generalize 2*j+1=d1 at *;generalize 2*j=d0 at *;generalize j+1=j1 at *;have hOn:¬BM X=[]:=fun e=>by rw[e]at hOl; simp at hOl; omega
     have hWn:¬BL X=[]:=fun e=>by rw[e]at hWl; simp at hWl; omega
     have hxl2:x<(fr x).length:=by omega
     generalize fr x=R at *;clear hfl hfre hfg hfs1 hfs2 hN2 hfgp hEg;simp[hflx,hxT,hxi,hg,hg2,hw,hwj,hw2,hw3,hl1,hl2,hg1,hg12,hg3,hg32,hNl,ho1,ho3,hjl,hOl,hWl,Y4 hOn,Y4 hWn,Z9 hOn,Z9 hWn,hOn,hWn];refine QY hsg ?_;simp[hflx,hxT,hg,hg2,hxl2,hw];exact hN3 [] _ _ (by omega) (by omega) (by simp +contextual [hOO,hLL,hEr',Ck,Y4 hOn,Y4 hWn,Z9 hOn,Z9 hWn,hOn,hWn,hOl,hWl])
   ·replace he:x=T:=Classical.not_not.1 he
    subst he;generalize fr x=R at *;simp[hflx];exact Z6 hKb [(4,6)] (by simp[hfrx])
  have hlt:t<T:=by omega
  have hal:=P8 h t;have hal1:=P8 h (t+1);have harS:Al m L (t+1)=Bk L (CH m (Al m L t)):=rfl;obtain⟨hwl,_,_⟩:=G9 (m:=m) (X:=X) hal;have hJg:J[CH m (Al m L t)]? = some [.int .i64 (Al m L (t+1):Nat)]:=hJget _ hwl;obtain⟨_,hJg2⟩:=Y6 hJg;have hwi:=Z8d m (Al m L t) (by omega) (by omega)
  have hsn:=Z3u m (Ar 0 gs) X L t;have hsn2:(Dr m (Ar 0 gs) X L (t+1) 0).map Ad=(Dr m (Ar 0 gs) X L t 0).map Ad++[Ad (Gi m (Ar 0 gs) X (Al m L t) 0)]:=by rw[hsn,List.map_append]; rfl
  have hN1:=hN (t+1);rw[hsn2]at hN1;have hwm:IntKind.i64.wrap (2*(m:Int))=2*m:=S8 (by omega) (by omega)
  have hlb:t≤1048575:=by omega
  have hne:¬t+1≤t:=by omega
  by_cases hp:Al m L t<2*m
  ·have hpi:((Al m L t:Nat):Int)<2*m:=by omega
   have hen:DP m L X.length (t+1)=DP m L X.length t:=by
    show(if _ then _ else _)=_
    rw[iP hp]
   have htd:((Al m L t:Nat):Int).tdiv 2=((Al m L t / 2:Nat):Int):=rfl;have ha2:Al m L t / 2<m:=by omega
   have hwd:=X5 ((Al m L t / 2:Nat):Int);have hfg:Gi m (Ar 0 gs) X (Al m L t) 0=AG ((Ar 0 gs).getD (Al m L t / 2) (0,0)):=by unfold Gi; rw[iP hp]
   rw[hen,hfg]at hN1;clear hN hsn hsn2;generalize hRL:(Dr m (Ar 0 gs) X L t 0).map Ad=RL at *;generalize DP m L X.length t=EN at *;generalize Al m L (t+1)=a1 at *;generalize ha:Al m L t=a at *;generalize a / 2=d at *;by_cases h0:t=0
   ·subst h0;have hRL0:RL=[]:=List.length_eq_zero_iff.1 CP;simp[hwm,hpi,htd,hwd];refine T6 (α:=Nat) (fun g=>[(1,.An IG),(3,.ptr 4 0 0),(7,AH 6 RL),(8,.sl 5 0 (2*X.length)),(9,.int .i64 a),(11,.int .i64 g),(12,.int .i64 (d - (gs.take g).sum:Nat))])
     (fun g=>⟨[(4,.cells 4 [[.int .i64 m,.sl 1 0 (2*m+4*X.length),AH 2 (BM X),AH 3 (BL X)]]),(1,.cells 1 J),(5,.cells 1 (Z0 EN))]++AF 6 6 RL (AF 2 1 (BM X) (AF 3 1 (BL X) [])),7⟩) (fun g=>gs.length - g) (fun g=>g<gs.length∧(gs.take g).sum≤d) 0 []
     (by simp +contextual [hJr,hOO,hLL,hGr,hLR,hEr]) ⟨by rcases Nat.eq_zero_or_pos gs.length with c|c; exact absurd (List.length_eq_zero_iff.1 c) (fun e=>by rw[e]at Bd; simp at Bd; omega); exact c,by simp⟩ ?_
    rintro g ⟨hgl1,hgs⟩ N2 hN2;have hgg:=hG g hgl1;obtain⟨_,hgg2⟩:=Y6 hgg;have hIl:g<IG.length:=by omega
    have hts:(gs.take (g+1)).sum=(gs.take g).sum+gs.getD g 0:=by
     rw[List.take_add_one,gE hgl1,Option.toList_some,List.sum_append,List.getD,gE hgl1];simp
    have hcm:gs.getD g 0≤m:=ZI hts Bd;have hpl:=Zd gs 0 g (d - (gs.take g).sum) hgl1;have hN3:=hN2 (g+1);have hgn:(gs.take (g+1)).sum≤d→g+1<gs.length:=fun e=>by
     rcases lG (g+1) gs.length with c|c
     ·exact c
     ·rw[tL c]at e;omega
    rw[hts]at hN3 hgn;rw[show (gs.take g).sum+(d - (gs.take g).sum)=d by omega,Nat.zero_add]at hpl
    have hwg:=Y1 ((g:Int)+1) ((g+1:Nat):Int);generalize (gs.take g).sum=s at *;generalize gs.getD g 0=c at *;have hrd:d - (s+c)=d - s - c:=by omega
    rw[hrd]at hN3;generalize hr:d - s=r at *;have hwr:=Y1 ((r:Int)+1) ((r+1:Nat):Int);by_cases Dx:c≤r
    ·have hci:(c:Int)≤r:=by omega
     have hwc:=Y1 ((r:Int) - c) ((r - c:Nat):Int);simp[hIl,hgg,hgg2,hci,hwc,hwg,hgl1];exact hN3 [] _ _ (by have:=hgn (by omega); omega) ⟨hgn (by omega),by omega⟩ (by simp +contextual [hJr,hOO,hLL,hGr,hLR,hEr])
    ·have hci:¬(c:Int)≤r:=by omega
     have hpl2:=hpl (by omega)
     rw[hpl2]at hN1;simp only[Ad,AG]at hN1;subst hRL0;simp[hIl,hgg,hgg2,hci,hwr,hgl1,Z8,T3,T0];refine QY hwi ?_;simp[hJl,hwl,hJg,hJg2];exact hN1 [(6,19)] _ _ (by omega) (by omega) (by simp +contextual [hJr,hOO,hLL,hGr,hLR,hEr,hs1,Bg,CP])
   ·have hRL0:¬RL=[]:=fun e=>h0 (by rw[← CP,e]; rfl)
    have hnz:¬a=0:=fun e=>hTf t (by omega) hlt (by omega)
    have hTk:List.take t RL=RL:=tL (by omega)
    simp[hwm,hpi,htd,hwd,h0,hnz];refine T6 (α:=Nat) (fun g=>[(1,.An IG),(3,.ptr 4 0 0),(7,AH 6 RL),(8,.sl 5 0 (2*X.length)),(9,.int .i64 a),(11,.int .i64 g),(12,.int .i64 (d - (gs.take g).sum:Nat))])
     (fun g=>⟨[(4,.cells 4 [[.int .i64 m,.sl 1 0 (2*m+4*X.length),AH 2 (BM X),AH 3 (BL X)]]),(1,.cells 1 J),(5,.cells 1 (Z0 EN))]++AF 6 6 RL (AF 2 1 (BM X) (AF 3 1 (BL X) [])),7⟩) (fun g=>gs.length - g) (fun g=>g<gs.length∧(gs.take g).sum≤d) 0 []
     (by simp +contextual [hJr,hOO,hLL,hGr,hLR,hEr]) ⟨by rcases Nat.eq_zero_or_pos gs.length with c|c; exact absurd (List.length_eq_zero_iff.1 c) (fun e=>by rw[e]at Bd; simp at Bd; omega); exact c,by simp⟩ ?_
    rintro g ⟨hgl1,hgs⟩ N2 hN2;have hgg:=hG g hgl1;obtain⟨_,hgg2⟩:=Y6 hgg;have hIl:g<IG.length:=by omega
    have hts:(gs.take (g+1)).sum=(gs.take g).sum+gs.getD g 0:=by
     rw[List.take_add_one,gE hgl1,Option.toList_some,List.sum_append,List.getD,gE hgl1];simp
    have hcm:gs.getD g 0≤m:=ZI hts Bd;have hpl:=Zd gs 0 g (d - (gs.take g).sum) hgl1;have hN3:=hN2 (g+1);have hgn:(gs.take (g+1)).sum≤d→g+1<gs.length:=fun e=>by
     rcases lG (g+1) gs.length with c|c
     ·exact c
     ·rw[tL c]at e;omega
    rw[hts]at hN3 hgn;rw[show (gs.take g).sum+(d - (gs.take g).sum)=d by omega,Nat.zero_add]at hpl
    have hwg:=Y1 ((g:Int)+1) ((g+1:Nat):Int);generalize (gs.take g).sum=s at *;generalize gs.getD g 0=c at *;have hrd:d - (s+c)=d - s - c:=by omega
    rw[hrd]at hN3;generalize hr:d - s=r at *;have hwr:=Y1 ((r:Int)+1) ((r+1:Nat):Int);by_cases Dx:c≤r
    ·have hci:(c:Int)≤r:=by omega
     have hwc:=Y1 ((r:Int) - c) ((r - c:Nat):Int);simp[hIl,hgg,hgg2,hci,hwc,hwg,hgl1];exact hN3 [] _ _ (by have:=hgn (by omega); omega) ⟨hgn (by omega),by omega⟩ (by simp +contextual [hJr,hOO,hLL,hGr,hLR,hEr])
    ·have hci:¬(c:Int)≤r:=by omega
     have hpl2:=hpl (by omega)
     rw[hpl2]at hN1;simp only[Ad,AG]at hN1;simp[hIl,hgg,hgg2,hci,hwr,hgl1,Z8,Y4 hRL0,Z9 hRL0,hRL0,CP,hne,hlb,hTk];refine QY hwi ?_;simp[hJl,hwl,hJg,hJg2];exact hN1 [(6,19)] _ _ (by omega) (by omega) (by simp +contextual [hJr,hOO,hLL,hGr,hLR,hEr,hs1,Bg,CP])
  ·have hpi:¬((Al m L t:Nat):Int)<2*m:=by omega
   have h0:¬t=0:=fun e=>by
    subst e;exact hp (by show 0<2*m; have:=h.hm; omega)
   have hfg:Gi m (Ar 0 gs) X (Al m L t) 0=⟨2,0,0,((Bh m (Al m L t)+1:Nat):Int),0,((X.getD (Bh m (Al m L t)) (false,false)).1 == (CG m (Al m L t) % 2 == 0)) != (X.getD (Bh m (Al m L t)) (false,false)).2⟩:=by
    unfold Gi;rw[iN hp]
   have hen:DP m L X.length (t+1)=(DP m L X.length t).set (2*Bh m (Al m L t)+CG m (Al m L t) % 2) (CG m (Al m L t)):=by
    show(if _ then _ else _)=_
    rw[iN hp]
   have hnz:¬Al m L t=0:=by have:=h.hm; omega
   have hjl:Bh m (Al m L t)<X.length:=by unfold Bh; omega
   have hq4:CG m (Al m L t)<4:=Nat.mod_lt _ (by omega)
   have haq:Al m L t=2*m+4*Bh m (Al m L t)+CG m (Al m L t):=by unfold Bh CG; omega
   have hEl:=Sf m L X.length t;rw[hen,hfg]at hN1;clear hN hsn hsn2 hen hfg;have hENs:=RG (DP m L X.length t) (2*Bh m (Al m L t)+CG m (Al m L t) % 2) (CG m (Al m L t));obtain⟨ho1,ho2⟩:=hOat _ hjl;obtain⟨_,ho3⟩:=Y6 ho1;obtain⟨_,ho4⟩:=Y6 ho2;have hEg:=MI (l:=DP m L X.length t) (i:=2*Bh m (Al m L t)+CG m (Al m L t) % 2) (by omega)
   generalize (DP m L X.length t).getD (2*Bh m (Al m L t)+CG m (Al m L t) % 2) 0=e at *;obtain⟨_,hEg2⟩:=Y6 hEg;have hNl:(Z0 (DP m L X.length t)).length=2*X.length:=by rw[O5,hEl]
   generalize hRL:(Dr m (Ar 0 gs) X L t 0).map Ad=RL at *;have hEr2:=fun q=>hnn q ((DP m L X.length t).set (2*Bh m (Al m L t)+CG m (Al m L t) % 2) (CG m (Al m L t)))
   generalize Z0 ((DP m L X.length t).set (2*Bh m (Al m L t)+CG m (Al m L t) % 2) (CG m (Al m L t)))=EN2 at *;generalize Z0 (DP m L X.length t)=EN at *;generalize Bh m (Al m L t)=j at *;generalize CG m (Al m L t)=q at *;generalize Al m L (t+1)=a1 at *;generalize Al m L t=a at *;have hwa:=Y1 ((a:Int) - 2*m) ((4*j+q:Nat):Int);have htd:((4*j+q:Nat):Int).tdiv 4=(j:Nat):=by
    show(((4*j+q) / 4:Nat):Int)=_
    congr 1; omega
   have htm:((4*j+q:Nat):Int).tmod 4=(q:Nat):=by
    show(((4*j+q) % 4:Nat):Int)=_
    congr 1; omega
   generalize 4*j+q=jq at *;have hwj:=X5 (j:Int);have hwq:=X5 (q:Int);have hw2j:=X5 (2*(j:Int));have htq:((q:Nat):Int).tmod 2=((q % 2:Nat):Int):=rfl;have hq2:q % 2<2:=Nat.mod_lt _ (by omega)
   generalize hqq:q % 2=q2 at *;have hwi2:=Y1 (2*(j:Int)+q2) ((2*j+q2:Nat):Int);have hil:2*j+q2<2*X.length:=by omega
   have hil2:2*j+q2<EN.length:=by omega
   have hwj1:=Y1 ((j:Int)+1) ((j+1:Nat):Int);have hqe:((q2:Int)=0)=(q2=0):=propext (by omega)
   generalize hii:2*j+q2=ii at *;generalize (X.getD j (false,false)).1=o at *;generalize (X.getD j (false,false)).2=w at *;have hOn:¬BM X=[]:=fun e=>by rw[e]at hOl; simp at hOl; omega
   have hWn:¬BL X=[]:=fun e=>by rw[e]at hWl; simp at hWl; omega
   have hRL0:¬RL=[]:=fun e=>h0 (by rw[← CP,e]; rfl)
   have hTk:List.take t RL=RL:=tL (by omega)
   have hov:((o == (q2 == 0)) != w) = !((o == decide (q2=0)) == w):=by
    have:(q2 == 0)=decide (q2=0):=by cases q2<;>rfl
    rw[this];rfl
   simp only[Ad,hov]at hN1;simp[hwm,hpi,h0,hnz,hwa,htd,htm,hwj,hwq,hw2j,htq,hwi2,Y4 hOn,Y4 hWn,Z9 hOn,Z9 hWn,hOn,hWn,hil,hil2,hEg,hEg2,hENs,hwj1,ho1,ho2,ho3,ho4,hjl,hOl,hWl,hNl,hqe,Z8,Y4 hRL0,Z9 hRL0,hRL0,CP,hne,hlb,hTk];refine QY hwi ?_;simp[hJl,hwl,hJg,hJg2];exact hN1 [(6,60)] _ _ (by omega) (by omega) (by simp +contextual [Y4 hOn,Y4 hWn,Z9 hOn,Z9 hWn,hOn,hWn,hOl,hWl,hJr,hOO,hLL,hGr,hLR,hEr2,hs1,Bg,CP])
end Go.Ab
