/- Part 40 of the proof: Eo, Eq, Lp. -/
import Derived.Test.YtilmpmlkndfbjaaGreatDoorK10
import Derived.Test.YtilmpmlkndfbjaaGreatDoorK39
set_option linter.all false
section
namespace Go.Ab
open Go Go.AE Go.Proofs
open Go.Plain
attribute [local simp] C8 D6 D3 B4 B0 C6 D7 C7 D9 B7 C3 Gk E5 B6 D8 C2 C1
attribute [local simp] aN YA
theorem F6{n c:Nat}(h:c<20):¬(c=20+n):=by omega
theorem bB:∀ (a b:List (List Aa)),V3 (a++b)=(V3 a&&V3 b)
 | [],_=>rfl
 | x :: r,b=>by
  show(W9 x&&V3 (r++b))=((W9 x&&V3 r)&&V3 b);rw[bB r b,Bool.and_assoc]
theorem Mm(XX:List (List Aa))(A B C D G H:Ag)(R:List (List Aa))(c:Nat)(y:Ag)(hc:Y2 ([(10,A),(11,B),(12,C),(13,D),(1,G),(2,H)]++AF 14 6 R (AF 3 6 XX [])) c=some y):c<20:=by
 refine RP (fun p hp=>?_) hc
 simp only[List.cons_append,List.nil_append,mC]at hp;rcases hp with rfl|rfl|rfl|rfl|rfl|rfl|hp
 any_goals (show _<_; omega)
 rcases RY hp with e|hp
 ·omega
 ·rcases RY hp with e|hp
  ·omega
  ·cases hp
theorem Pv(XX:List (List Aa))(A B C D G:Ag)(c:Nat)(y:Ag)(hc:Y2 ([(10,A),(11,B),(12,C),(1,D),(14,G)]++AF 3 6 XX []) c=some y):c<20:=by
 refine RP (fun p hp=>?_) hc
 simp only[List.cons_append,List.nil_append,mC]at hp;rcases hp with rfl|rfl|rfl|rfl|rfl|hp
 any_goals (show _<_; omega)
 rcases RY hp with e|hp
 ·omega
 ·cases hp
set_option maxRecDepth 100000 in
set_option maxHeartbeats 16000000 in
theorem Z8q(f:Int)(m:Nat)(gs:List Nat)(Bd:(Ar 0 gs).length=m)(X:List Nd)(L:List (Nat×Nat))(h:Gt m X L)(hb:2*m+4*X.length≤1000)(Post:Aa→Ac→Prop)
 (hC:EF m X L→J9 f (X8 (Y3 m (Ar 0 gs) X L))=0)
 (hOk:EF m X L→Post (.tuple [.agg [.int .i64 f,.sl 4 0 (m+2*X.length)],.bool true]) ⟨[(4,.cells 6 ((X8 (Y3 m (Ar 0 gs) X L)).map Ad))],5⟩) (Vf:¬EF m X L→Post (.tuple [.agg [.int .i64 0,.Ai],.bool false]) ⟨[],4⟩) :
 Cc Tryz.prog 28 [.ptr 1 0 0,.int .i64 f] ⟨(1,Es (.An (((Ar 0 gs).map AG).map Ad)) (.sl 2 0 (2*m+4*X.length)) (AH 3 ((xJ m X).map Cb))) :: (2,.cells 1 (Z1 (BK (2*m+4*X.length) L))) :: AF 3 6 ((xJ m X).map Cb) [],4⟩ Post:=by
 refine GV hm [] Tryz.func28 UX rfl rfl fun K hK=>?_
 have hPl:(((Ar 0 gs).map AG).map Ad).length=m:=by simp[Bd]
 have hXl:((xJ m X).map Cb).length=X.length:=by rw[lM,Xh]
 have hw1:IntKind.i64.wrap (2*(X.length:Int))=2*X.length:=S8 (by omega) (by omega)
 have hw2:IntKind.i64.wrap ((m:Int)+2*X.length)=m+2*X.length:=S8 (by omega) (by omega)
 have hXb:X.length≤1048576:=by omega
 have hXb2:24*X.length≤1048576:=by omega
 have hrP0:∀ q,Z3 q (((Ar 0 gs).map AG).map Ad)=((Ar 0 gs).map AG).map Ad:=fun q=>X7 q _ (R7 _)
 have hrJ:∀ q,Z3 q (Z1 (BK (2*m+4*X.length) L))=Z1 (BK (2*m+4*X.length) L):=fun q=>X7 q _ (N9 _)
 have ET:∀ q,Z3 q ((xJ m X).map Cb)=(xJ m X).map Cb:=fun q=>X7 q _ (OJ _)
 have hSg:=fun hw e mm hW=>Z4m f h hw Bd hb (((Ar 0 gs).map AG).map Ad) hrP0 K (hC hw) (hK _ _ (hOk hw)) e mm hW
 unfold Es;have hPg:∀ i,i<m→(((Ar 0 gs).map AG).map Ad)[i]? = some (Ad (AG ((Ar 0 gs).getD i (0,0)))):=fun i hi=>by
  rw[gM,gM,gE (by omega),List.getD,gE (by omega)]
  rfl
 have hJget:∀ e,e<2*m+4*X.length→(Z1 (BK (2*m+4*X.length) L))[e]? = some [.int .i64 ((Bk L e:Nat):Int)]:=fun e he=>
  Z8b h.nd (fun p hp=>⟨(h.en _).2 (Bi.2 ⟨p,hp,.inl rfl⟩),(h.en _).2 (Bi.2 ⟨p,hp,.inr rfl⟩)⟩) ((h.en e).1 he)
 generalize ((Ar 0 gs).map AG).map Ad=P at *;generalize Z1 (BK (2*m+4*X.length) L)=J at *;generalize (xJ m X).map Cb=XX at *;simp[hPl,hXl,hw1,hw2,hXb,hXb2];have Fv:∀ q,Z3 q P=P:=hrP0
 have hv0:∀ x,(U4 m L 0 x).map Dv=[]:=fun x=>rfl
 refine Tn (α:=Nat) (fun t=>[(0,.ptr 1 0 0),(1,.int .i64 f),(4,.ptr 10 0 0),(5,.bool false),(6,.ptr 11 0 0),(7,.int .i64 m),(8,.sl 12 0 X.length),(9,.map 13),(10,.int .i64 ((m:Int)+2*X.length - t)),(11,.int .i64 (Al m L t))])
  (fun t=>⟨M6 2 20 (fun x=>(U4 m L t x).map Dv) X.length ([(10,.cells 2 [[.int .i64 0,.Ai]]),(11,.cells 2 [[.int .i64 f,AH 14 ((I7 m (Ar 0 gs) L t).map Ad)]]),(12,.cells 1 (M1 20 X.length fun x=>(U4 m L t x).map Dv)),
    (13,.map (HY 0 (Dj m L t)) (Dj m L t).length),(1,.cells 3 [[.An P,.sl 2 0 (2*m+4*X.length),AH 3 XX]]),(2,.cells 1 J)]++AF 14 6 ((I7 m (Ar 0 gs) L t).map Ad) (AF 3 6 XX [])),20+X.length⟩)
  (fun t=>m+2*X.length+1 - t) (fun t=>t≤m+2*X.length ∧ ∀ s,0<s→s≤t→Al m L s≠0) 0 ?_ ⟨by omega,fun s h1 h2=>by omega⟩ ?_
 ·rw[Z9j _ fun x _=>hv0 x,ua fun x _=>hv0 x]
  refine Bq.wk (l:=[(10,4),(11,8),(12,21),(13,23)]) ?_;have hl0:(I7 m (Ar 0 gs) L 0).map Ad=[]:=rfl;have hm0:HY 0 (Dj m L 0)=[]:=rfl;have ha0:Al m L 0=0:=rfl;have hn0:Dj m L 0=[]:=rfl;have As:∀ q,Z3 q (List.replicate X.length [Aa.Ai])=List.replicate X.length [.Ai]:=fun q=>by rw[HE]; simp[U3,Aa.AA]
  rw[hl0,hm0,hn0,ha0];have k10:10<20+X.length:=by omega
  have k11:11<20+X.length:=by omega
  have k12:12<20+X.length:=by omega
  have k13:13<20+X.length:=by omega
  have k4:4≤20+X.length:=by omega
  simp +contextual [As,Fv,hrJ,ET,EA,k10,k11,k12,k13,k4]
 ·rintro t ⟨ht,hfst⟩ N hN;have hmp:=h.hm;have Jd:∀ t y,V3 ((U4 m L t y).map Dv)=true:=fun t y=>Rp _
  have hs1:∀ (c:Nat) (x:List Aa),AH c [x]=.sl c 0 1:=fun _ _=>rfl
  have Bg:∀ (c k:Nat) (x:List Aa) (r:List (Nat×Ag)),AF c k [x] r=(c,.cells k [x]) :: r:=fun _ _ _ _=>rfl
  by_cases hend:t=m+2*X.length
  ·have hnw:¬EF m X L:=fun hw=>hfst t (by omega) (lR _) (by rw[hend]; exact hw.back)
   have hw3:IntKind.i64.wrap ((m:Int)+2*X.length - t - 1) = -1:=by rw[S8 (by omega) (by omega)]; omega
   simp[hw3];exact Z6 (hK _ _ (Vf hnw)) [] (by simp)
  have hlt:t<m+2*X.length:=by omega
  have hw3:=Y1 ((m:Int)+2*X.length - t - 1) ((m:Int)+2*X.length - (t+1:Nat));have hz3:¬((m:Int)+2*X.length - (t+1:Nat)<0):=by omega
  have hwm:IntKind.i64.wrap (2*(m:Int))=2*m:=S8 (by omega) (by omega)
  have hal:=P8 h t;have hal1:=P8 h (t+1);have harS:Al m L (t+1)=Bk L (CH m (Al m L t)):=rfl;obtain⟨hwl,_,_⟩:=G9 (m:=m) (X:=X) hal;have hJg:J[CH m (Al m L t)]? = some [.int .i64 (Al m L (t+1):Nat)]:=hJget _ hwl;have hlts:(I7 m (Ar 0 gs) L (t+1)).map Ad=(I7 m (Ar 0 gs) L t).map Ad++[Ad (Lm m (Ar 0 gs) L t)]:=by
   unfold I7;rw[List.range_succ,List.map_append,List.map_append];rfl
  obtain⟨left,hleft⟩:∃ left:Int,left=(m:Int)+2*X.length - (t+1:Nat):=⟨_,rfl⟩
  rw[← hleft]at hw3 hz3;have hN1:=hN (t+1);rw[← hleft]at hN1;have hnw:left≠0→Al m L (t+1)=0 → ¬EF m X L:=fun hl hz hw=>by
   rcases lG (t+1) (m+2*X.length)with c|c
   ·exact hw.first (t+1) (by omega) c hz
   ·omega
  have hev:=h.ev;have hSg1:left=0→Al m L (t+1)=0→m+2*X.length=t+1∧EF m X L:=fun hl hz=>by
   have e1:m+2*X.length=t+1:=by omega
   refine⟨e1,by rw[e1]; exact hz,fun s h1 h2=>hfst s h1 (by omega)⟩
  by_cases hp:Al m L t<2*m
  ·have hvP:∀ x,U4 m L (t+1) x=U4 m L t x:=fun x=>by
    show(if _ then _ else _)=_
    rw[iN (fun e=>e.1 hp)]
   have hnP:Dj m L (t+1)=Dj m L t:=by
    unfold Dj;show List.map _ (if _ then _ else _)=_
    rw[iP (.inl hp)]
   simp only[hvP,hnP]at hN1;have hpi:((Al m L t:Nat):Int)<2*m:=by omega
   have htd:((Al m L t:Nat):Int).tdiv 2=((Al m L t / 2:Nat):Int):=rfl;have ha2:Al m L t / 2<m:=by omega
   have hwd:=X5 ((Al m L t / 2:Nat):Int);have hgp:=hPg _ ha2;have hlt1:Lm m (Ar 0 gs) L t=AG ((Ar 0 gs).getD (Al m L t / 2) (0,0)):=by unfold Lm; rw[iP hp]
   rw[hlt1]at hlts;have hx:=kS (Al m L t) (by omega)
   rw[OA hp]at hJg;have hlen:((I7 m (Ar 0 gs) L t).map Ad).length=t:=by unfold I7; simp
   generalize AG ((Ar 0 gs).getD (Al m L t / 2) (0,0))=pl at *;have Ci:∀ q,Z3 q ((I7 m (Ar 0 gs) L t).map Ad)=(I7 m (Ar 0 gs) L t).map Ad:=fun q=>X7 q _ (R7 _)
   generalize (I7 m (Ar 0 gs) L t).map Ad=RL at *;obtain⟨d,hd⟩:∃ d,Al m L t / 2=d:=⟨_,rfl⟩
   rw[hd]at htd ha2 hwd hgp;unfold Ad at hgp;obtain⟨Dd,hgp2⟩:=Y6 hgp;obtain⟨b,hbk⟩:∃ b,Dc (Al m L t)=b:=⟨_,rfl⟩
   rw[hbk]at hJg hx;obtain⟨hJl,hJg2⟩:=Y6 hJg;have hRb:RL.length≤1048575:=by omega
   have hne1:¬RL.length+1≤RL.length:=by omega
   have hbl:b<2*m+4*X.length:=by rw[← hbk]; unfold Dc; split<;>omega
   by_cases hz:Al m L (t+1)=0
   ·have hz0:((Al m L (t+1):Nat):Int)=0:=by omega
    by_cases hl0:left=0
    ·obtain⟨ht1,hw⟩:=hSg1 hl0 hz;have hLe:RL≠[]:=fun e=>by rw[e]at hlen; simp at hlen; omega
     have hSg:=hSg hw;unfold eS mS at hSg;rw[ht1]at hSg;simp only[hvP]at hSg;rw[hlts]at hSg;simp[hw3,hz3,hwm,hpi,htd,hwd,hgp,hgp2,hPl,ha2,hx,hbl,hJg,hJg2,Z8,hne1,hRb,Y4 hLe,Z9 hLe,hLe,hz0,hl0,hz];refine hSg _ _ (Dk.Dq (x:=X.length) (N:=0) (l:=[(14,20+X.length+3+2+4+11)]) (by omega) (Pv _ _ _ _ _ _) ?_ (fun e=>absurd e (Nat.lt_irrefl _)) ?_ ?_ ?_ ?_ ?_)
     ·simp[GN]; try omega
     ·simp[S5,W5]
     ·simp +contextual [S5,W5,Hv,No,Fv,hrJ,ET,hs1,Bg,Ad,Ci,n20,F6,I5,hlen]
     ·simp;intro y hy hyx hv
      repeat rw[iN (by omega)]
      rw[O6 _ hy,iN (by simpa using hv)]
     ·exact fun e=>absurd e (Nat.lt_irrefl _)
     ·exact fun y _=>Jd t y
    ·by_cases hLe:RL=[]
     ·subst hLe;simp[hw3,hz3,hwm,hpi,htd,hwd,hgp,hgp2,hPl,ha2,hx,hbl,hJg,hJg2,Z8,hne1,hRb,hz0,hl0,hz];exact Z6 (hK _ _ (Vf (hnw hl0 hz))) [] (by simp)
     ·simp[hw3,hz3,hwm,hpi,htd,hwd,hgp,hgp2,hPl,ha2,hx,hbl,hJg,hJg2,Z8,hne1,hRb,Y4 hLe,Z9 hLe,hLe,hz0,hl0,hz];exact Z6 (hK _ _ (Vf (hnw hl0 hz))) [] (by simp)
   ·have DJ:¬((Al m L (t+1):Nat):Int)<0:=by omega
    have hN2:=fun e mm hW=>hN1 e mm (by omega) ⟨by omega,fun s h1 h2=>by
     rcases lG s (t+1)with c|c
     ·exact hfst s h1 (by omega)
     ·have:s=t+1:=by omega
      rw[this]; exact hz⟩ hW
    rw[hlts]at hN2;by_cases hLe:RL=[]
    ·subst hLe;simp[hw3,hz3,hwm,hpi,htd,hwd,hgp,hgp2,hPl,ha2,hx,hbl,hJg,hJg2,Z8,hne1,hRb,hz,DJ];refine hN2 _ _ (Dk.Dq (x:=X.length) (N:=0) (l:=[(14,20+X.length+3+2+4+11)]) (by omega) (Mm _ _ _ _ _ _ _ _) ?_ (fun e=>absurd e (Nat.lt_irrefl _)) ?_ ?_ ?_ ?_ ?_)
     ·simp[GN]; try omega
     ·simp[S5,W5]
     ·simp +contextual [S5,W5,Hv,No,Fv,hrJ,ET,hs1,Bg,Ad,Ci,n20,F6,I5]
     ·simp;intro y hy hyx hv
      repeat rw[iN (by omega)]
      rw[O6 _ hy,iN (by simpa using hv)]
     ·exact fun e=>absurd e (Nat.lt_irrefl _)
     ·exact fun y _=>Jd t y
    ·simp[hw3,hz3,hwm,hpi,htd,hwd,hgp,hgp2,hPl,ha2,hx,hbl,hJg,hJg2,Z8,hne1,hRb,Y4 hLe,Z9 hLe,hLe,hz,DJ];refine hN2 _ _ (Dk.Dq (x:=X.length) (N:=0) (l:=[(14,20+X.length+3+2+4+11)]) (by omega) (Mm _ _ _ _ _ _ _ _) ?_ (fun e=>absurd e (Nat.lt_irrefl _)) ?_ ?_ ?_ ?_ ?_)
     ·simp[GN]; try omega
     ·simp[S5,W5]
     ·simp +contextual [S5,W5,Hv,No,Fv,hrJ,ET,hs1,Bg,Ad,Ci,n20,F6,I5]
     ·simp;intro y hy hyx hv
      repeat rw[iN (by omega)]
      rw[O6 _ hy,iN (by simpa using hv)]
     ·exact fun e=>absurd e (Nat.lt_irrefl _)
     ·exact fun y _=>Jd t y
  ·have hpi:¬((Al m L t:Nat):Int)<2*m:=by omega
   obtain⟨a,hae⟩:∃ a,a=Al m L t:=⟨_,rfl⟩
   obtain⟨x,hx⟩:∃ x,x=Bh m a:=⟨_,rfl⟩
   obtain⟨q,hq⟩:∃ q,q=CG m a:=⟨_,rfl⟩
   have hxl:x<X.length:=by rw[hx,hae]; unfold Bh; omega
   have hq4:q<4:=by rw[hq]; exact Nat.mod_lt _ (by omega)
   have haq:a=2*m+4*x+q:=by rw[hx,hq]; unfold Bh CG; omega
   have hvC:∀ y,U4 m L (t+1) y=if y=x then U4 m L t x++[(t,q)]else U4 m L t y:=fun y=>by
    show(if _ then _ else _)=_
    rw[← hae,← hx,← hq];by_cases hy:y=x
    ·subst hy;rw[iP ⟨by rw[hae]; exact hp,rfl⟩,iP rfl]
    ·rw[iN (fun e=>hy e.2.symm),iN hy]
   have hlt1:Lm m (Ar 0 gs) L t=⟨2,0,0,((Y9 ((x:Nat):Int) (Dj m L (t+1)):Nat):Int),0,false⟩:=by
    unfold Lm;rw[iN hp,hx,hae];rfl
   rw[hlt1]at hlts;have hwa:=Y1 ((a:Int) - 2*m) ((4*x+q:Nat):Int);have htd:((4*x+q:Nat):Int).tdiv 4=(x:Nat):=by
    show(((4*x+q) / 4:Nat):Int)=_
    congr 1; omega
   have htm:((4*x+q:Nat):Int).tmod 4=(q:Nat):=by
    show(((4*x+q) % 4:Nat):Int)=_
    congr 1; omega
   have hwx:IntKind.i64.wrap (x:Int)=x:=S8 (by omega) (by omega)
   have hwq:=Y1 ((q:Int)+2) ((q+2:Nat):Int);have htq:((q+2:Nat):Int).tmod 4=(((q+2) % 4:Nat):Int):=rfl;have hq2:=Nat.mod_lt (q+2) (show 0<4 by omega)
   have hwi:CH m a=2*m+4*x+(q+2) % 4:=by rw[haq]; exact Oh hq4
   obtain⟨q2,hq2e⟩:∃ q2,(q+2) % 4=q2:=⟨_,rfl⟩
   rw[hq2e]at htq hq2 hwi;have hwr:=X5 ((q2:Int) - q);obtain⟨b,hbk⟩:∃ b,CH m a=b:=⟨_,rfl⟩
   rw[hbk]at hwi;have hwb:=Y1 ((a:Int)+((q2:Int) - q)) (b:Nat);have hbl:b<2*m+4*X.length:=by omega
   rw[← hae,hbk]at hJg;obtain⟨hJl,hJg2⟩:=Y6 hJg;have hlen:((I7 m (Ar 0 gs) L t).map Ad).length=t:=by unfold I7; simp
   have Ci:∀ q,Z3 q ((I7 m (Ar 0 gs) L t).map Ad)=(I7 m (Ar 0 gs) L t).map Ad:=fun q=>X7 q _ (R7 _)
   generalize (I7 m (Ar 0 gs) L t).map Ad=RL at *;rw[← hae]at hpi ⊢;generalize hQ1:4*x+q=dd at *;generalize hQ2:q+2=dq at *;have hRb:RL.length≤1048575:=by omega
   have hne1:¬RL.length+1≤RL.length:=by omega
   have hne2:¬t+1≤t:=by omega
   have Mp:List.take t RL=RL:=tL (by omega)
   have htb:t≤1048575:=by omega
   have hfi:=Yo (x:Int) 0 (Dj m L t);have hml:=pI 0 (Dj m L t);have hnl:(Dj m L t).length≤t:=pY t;have hwn:=Y1 (((Dj m L t).length:Int)+1) ((Dj m L t).length+1:Nat);have hnS0:Dj m L (t+1)=if Y9 (x:Int) (Dj m L t)=0 then Dj m L t++[(x:Int)]else Dj m L t:=by
    have e2:DS m L (t+1)=if Al m L t<2*m∨Bh m (Al m L t)∈DS m L t then DS m L t else DS m L t++[Bh m (Al m L t)]:=rfl
    by_cases hm:x∈DS m L t
    ·rw[iN (fun e=>(GK.1 e) hm)]
     unfold Dj;rw[e2,iP (.inr (by rw[← hae,← hx]; exact hm))]
    ·rw[iP (GK.2 hm)];unfold Dj;rw[e2,iN (fun e=>e.elim hp (by rw[← hae,← hx]; exact hm)),List.map_append,← hae,← hx]
     rfl
   have hvn:Y9 (x:Int) (Dj m L t)=0↔U4 m L t x=[]:=by rw[GK,uQ]
   have hvl:(U4 m L t x).length≤1000:=by have:=wS (m:=m) (L:=L) (x:=x) t; omega
   simp only[hvC]at hN1;obtain⟨F,hF⟩:∃ F:Nat→List (List Aa),F=fun y=>(U4 m L t y).map Dv:=⟨_,rfl⟩
   have hF1:(fun y=>(if y=x then U4 m L t x++[(t,q)]else U4 m L t y).map Dv)=Fe F x (F x++[Dv (t,q)]):=by
    funext y
    unfold Fe;by_cases hy:y=x
    ·subst hy;rw[iP rfl,iP rfl,hF,List.map_append];rfl
    ·rw[iN hy,iN hy,hF]
   rw[hF1]at hN1;have He:∀ y,V3 (F y)=true:=fun y=>by rw[hF]; exact Rp _
   have hvl2:(F x).length≤1048575:=by rw[hF,lM]; omega
   have hvn2:Y9 (x:Int) (Dj m L t)=0↔F x=[]:=by rw[hvn,hF]; simp
   rw[← hF];clear hF hvn;have hfg:(M1 20 X.length F)[x]? = some [AH (20+x) (F x)]:=vN hxl;obtain⟨_,hfg2⟩:=Y6 hfg;have hfl:(M1 20 X.length F).length=X.length:=ZK;have hlf:∀ rest,Y2 (M6 2 20 F X.length rest) (20+x)=if F x=[]then Y2 rest (20+x)else some (.cells 2 (F x)):=fun rest=>O6 _ hxl
   have hLe:¬RL=[]:=fun e=>by
    rw[e]at hlen;have:t=0:=hlen.symm;subst this;exact hp (by show 0<2*m; omega)
   by_cases hnew:Y9 (x:Int) (Dj m L t)=0
   ·have hnS:Dj m L (t+1)=Dj m L t++[(x:Int)]:=by rw[hnS0,iP hnew]
    have hFx0:F x=[]:=hvn2.1 hnew;have hcU:∀ y,y<X.length→V3 (Fe F x [Dv (t,q)] y)=true:=fun y _=>by
     unfold Fe;split
     ·exact Rp [(t,q)]
     ·exact He y
    have hfi2:=Yo (x:Int) 0 (Dj m L t++[(x:Int)]);have hsn:=nU (x:Int) 0 (Dj m L t);rw[SJ hnew,iN (by omega)]at hfi2
    rw[hnS,SJ hnew]at hlts;rw[hnS]at hN1;rw[hFx0]at hfg hfg2 hN1 hF1;simp at hsn hfi2;by_cases hz:Al m L (t+1)=0
    ·by_cases hl0:left=0
     ·obtain⟨ht1,hw⟩:=hSg1 hl0 hz;have hSg:=hSg hw;unfold eS mS at hSg;rw[ht1]at hSg;simp only[hvC]at hSg;rw[hF1,hlts]at hSg;simp[hw3,hz3,hwm,hpi,hwa,htd,htm,hwx,hfi,hnew,hml,hfg,hfg2,hfl,hxl,hlen,Z8,Y4 hLe,Z9 hLe,hLe,hne2,Mp,htb,hwq,htq,hwr,hwb,hbl,hJg,hJg2,hlf,n20,F6,Ln hxl, Hh,Hi, Hj,   I5,hwn,hsn,hfi2,T3,hFx0,hz,hl0];refine hSg _ _ (Dk.Dq (x:=x) (N:=20+X.length+3+2+4+12+4+6+12) (l:=[(14,20+X.length+3+2+4+12+4+6+15+7)]) (by omega) (Pv _ _ _ _ _ _) ?_ (fun _=>⟨by omega,by first|omega|(simp; done)|(simp; omega)⟩) ?_ ?_ ?_ ?_ ?_)
      ·simp[GN]; try omega
      ·simp[S5,W5]
      ·simp +contextual [S5,W5,VY hxl,No,Fv,hrJ,ET,hs1,Bg,Ad,Ci,n20,F6,I5,hlen]
      ·simp;intro y hy hyx hv
       repeat rw[iN (by omega)]
       rw[SL hyx]at hv ⊢
       first|rw[O6 _ hy,iN hv]|(simp only[I5]; repeat rw[iN (by omega)]; rw[O6 _ hy,iN hv]; try rw[iN (by omega)])
      ·intro _; simp[Tt,hFx0,Dv,n20,F6, Hh,Hi, Hj]
      ·exact hcU
     ·simp[hw3,hz3,hwm,hpi,hwa,htd,htm,hwx,hfi,hnew,hml,hfg,hfg2,hfl,hxl,hlen,Z8,Y4 hLe,Z9 hLe,hLe,hne2,Mp,htb,hwq,htq,hwr,hwb,hbl,hJg,hJg2,hlf,n20,F6,Ln hxl, Hh,Hi, Hj,   I5,hwn,hsn,hfi2,T3,hFx0,hz,hl0];exact Z6 (hK _ _ (Vf (hnw hl0 hz))) [] (by simp)
    ·have DJ:¬((Al m L (t+1):Nat):Int)<0:=by omega
     have hN2:=fun e mm hW=>hN1 e mm (by omega) ⟨by omega,fun s h1 h2=>by
      rcases lG s (t+1)with c|c
      ·exact hfst s h1 (by omega)
      ·have:s=t+1:=by omega
       rw[this]; exact hz⟩ hW
     rw[hlts]at hN2;simp[hw3,hz3,hwm,hpi,hwa,htd,htm,hwx,hfi,hnew,hml,hfg,hfg2,hfl,hxl,hlen,Z8,Y4 hLe,Z9 hLe,hLe,hne2,Mp,htb,hwq,htq,hwr,hwb,hbl,hJg,hJg2,hlf,n20,F6,Ln hxl, Hh,Hi, Hj,   I5,hwn,hsn,hfi2,T3,hFx0,hz,DJ];refine hN2 _ _ (Dk.Dq (x:=x) (N:=20+X.length+3+2+4+12+4+6+12) (l:=[(14,20+X.length+3+2+4+12+4+6+15+7)]) (by omega) (Mm _ _ _ _ _ _ _ _) ?_ (fun _=>⟨by omega,by first|omega|(simp; done)|(simp; omega)⟩) ?_ ?_ ?_ ?_ ?_)
     ·simp[GN]; try omega
     ·simp[S5,W5]
     ·simp +contextual [S5,W5,VY hxl,No,Fv,hrJ,ET,hs1,Bg,Ad,Ci,n20,F6,I5,hlen]
     ·simp;intro y hy hyx hv
      repeat rw[iN (by omega)]
      rw[SL hyx]at hv ⊢
      first|rw[O6 _ hy,iN hv]|(simp only[I5]; repeat rw[iN (by omega)]; rw[O6 _ hy,iN hv]; try rw[iN (by omega)])
     ·intro _; simp[Tt,hFx0,Dv,n20,F6, Hh,Hi, Hj]
     ·exact hcU
   ·have hnS:Dj m L (t+1)=Dj m L t:=by rw[hnS0,iN hnew]
    have hFx0:¬F x=[]:=fun e=>hnew (hvn2.2 e)
    have hcU:∀ y,y<X.length→V3 (Fe F x (F x++[Dv (t,q)]) y)=true:=fun y _=>by
     unfold Fe;split
     ·rw[bB,He x,Bool.true_and]; exact Rp [(t,q)]
     ·exact He y
    rw[hnS]at hN1 hlts;obtain⟨ix,hix⟩:∃ ix,ix=Y9 (x:Int) (Dj m L t):=⟨_,rfl⟩
    have hix0:¬ix=0:=by rw[hix]; exact hnew
    have hix1:¬((ix:Nat):Int)=0:=by omega
    rw[iN hnew,Nat.zero_add,Nat.zero_add]at hfi;rw[← hix]at hfi hlts;have hne3:¬(F x).length+1≤(F x).length:=by omega
    have hFb:(F x).length≤1048575:=hvl2;by_cases hz:Al m L (t+1)=0
    ·by_cases hl0:left=0
     ·obtain⟨ht1,hw⟩:=hSg1 hl0 hz;have hSg:=hSg hw;unfold eS mS at hSg;rw[ht1]at hSg;simp only[hvC]at hSg;rw[hF1,hlts]at hSg;simp[hw3,hz3,hwm,hpi,hwa,htd,htm,hwx,hfi,hnew,hml,hfg,hfg2,hfl,hxl,hlen,Z8,Y4 hLe,Z9 hLe,hLe,hne2,Mp,htb,hwq,htq,hwr,hwb,hbl,hJg,hJg2,hlf,n20,F6,Ln hxl, Hh,Hi, Hj,   I5,Y4 hFx0,hFx0,hne3,hFb,hix0,hix1,hz,hl0];refine hSg _ _ (Dk.Dq (x:=x) (N:=20+X.length+3+2+4+12+4+12) (l:=[(14,20+X.length+3+2+4+12+4+15+7)]) (by omega) (Pv _ _ _ _ _ _) ?_ (fun _=>⟨by omega,by first|omega|(simp; done)|(simp; omega)⟩) ?_ ?_ ?_ ?_ ?_)
      ·simp[GN]; try omega
      ·simp[S5,W5]
      ·simp +contextual [S5,W5,VY hxl,No,Fv,hrJ,ET,hs1,Bg,Ad,Ci,n20,F6,I5,hlen]
      ·simp;intro y hy hyx hv
       repeat rw[iN (by omega)]
       rw[SL hyx]at hv ⊢
       first|rw[O6 _ hy,iN hv]|(simp only[I5]; repeat rw[iN (by omega)]; rw[O6 _ hy,iN hv]; try rw[iN (by omega)])
      ·intro _; simp[Tt,hFx0,Dv,n20,F6, Hh,Hi, Hj]
      ·exact hcU
     ·simp[hw3,hz3,hwm,hpi,hwa,htd,htm,hwx,hfi,hnew,hml,hfg,hfg2,hfl,hxl,hlen,Z8,Y4 hLe,Z9 hLe,hLe,hne2,Mp,htb,hwq,htq,hwr,hwb,hbl,hJg,hJg2,hlf,n20,F6,Ln hxl, Hh,Hi, Hj,   I5,Y4 hFx0,hFx0,hne3,hFb,hix0,hix1,hz,hl0];exact Z6 (hK _ _ (Vf (hnw hl0 hz))) [] (by simp)
    ·have DJ:¬((Al m L (t+1):Nat):Int)<0:=by omega
     have hN2:=fun e mm hW=>hN1 e mm (by omega) ⟨by omega,fun s h1 h2=>by
      rcases lG s (t+1)with c|c
      ·exact hfst s h1 (by omega)
      ·have:s=t+1:=by omega
       rw[this]; exact hz⟩ hW
     rw[hlts]at hN2;simp[hw3,hz3,hwm,hpi,hwa,htd,htm,hwx,hfi,hnew,hml,hfg,hfg2,hfl,hxl,hlen,Z8,Y4 hLe,Z9 hLe,hLe,hne2,Mp,htb,hwq,htq,hwr,hwb,hbl,hJg,hJg2,hlf,n20,F6,Ln hxl, Hh,Hi, Hj,   I5,Y4 hFx0,hFx0,hne3,hFb,hix0,hix1,hz,DJ];refine hN2 _ _ (Dk.Dq (x:=x) (N:=20+X.length+3+2+4+12+4+12) (l:=[(14,20+X.length+3+2+4+12+4+15+7)]) (by omega) (Mm _ _ _ _ _ _ _ _) ?_ (fun _=>⟨by omega,by first|omega|(simp; done)|(simp; omega)⟩) ?_ ?_ ?_ ?_ ?_)
     ·simp[GN]; try omega
     ·simp[S5,W5]
     ·simp +contextual [S5,W5,VY hxl,No,Fv,hrJ,ET,hs1,Bg,Ad,Ci,n20,F6,I5,hlen]
     ·simp;intro y hy hyx hv
      repeat rw[iN (by omega)]
      rw[SL hyx]at hv ⊢
      first|rw[O6 _ hy,iN hv]|(simp only[I5]; repeat rw[iN (by omega)]; rw[O6 _ hy,iN hv]; try rw[iN (by omega)])
     ·intro _; simp[Tt,hFx0,Dv,n20,F6, Hh,Hi, Hj]
     ·exact hcU
end Go.Ab
end
section
namespace Go.Ab
open Go Go.AE Go.Proofs
open Go.Plain
def EW:List Int→Int
 | []=>0
 | x :: r=>r.foldl (fun a b=>if b<a then b else a) x
theorem tU:∀ (l:List Int) (x:Int),(l.foldl (fun a b=>if b<a then b else a) x<0)↔(x<0 ∨ ∃ y,y∈l∧y<0)
 | [],x=>by simp
 | y :: r,x=>by
  rw[List.foldl_cons,tU r];simp only[mC,exists_eq_or_imp];split<;>constructor<;>intro h
  ·rcases h with h|h
   ·exact .inr (.inl h)
   ·exact .inr (.inr h)
  ·rcases h with h|h|h
   ·exact .inl (by omega)
   ·exact .inl h
   ·exact .inr h
  ·rcases h with h|h
   ·exact .inl h
   ·exact .inr (.inr h)
  ·rcases h with h|h|h
   ·exact .inl h
   ·exact .inl (by omega)
   ·exact .inr h
theorem Ts{l:List Int}(h:l≠[]):EW l<0 ↔ ∃ y,y∈l∧y<0:=by
 cases l with
 | nil=>exact absurd rfl h
 | cons x r=>
  rw[EW,tU];simp[mC]
set_option maxHeartbeats 2000000 in
theorem eC(x:Int)(l:List Int)(hl:l.length≤100000):AS Tryz.prog 26 [.An (Z1 (x :: l))] (.int .i64 (EW (x :: l))):=by
 refine Lx hm Tryz.func26 UW rfl rfl (by simp only[W9,Aa.closed,N9,Bool.and_true]) trivial fun K hK=>?_
 have CP:=A8 (x :: l);have Ci:∀ q,Z3 q (Z1 (x :: l))=Z1 (x :: l):=fun q=>X7 q _ (N9 _)
 have hRg:=fun i (h:i<(x :: l).length)=>Kn h
 have h0:=hRg 0 (by simp)
 obtain⟨_,h02⟩:=Y6 h0;rw[lC]at CP;generalize Z1 (x :: l)=R at *;have hne:¬((l.length:Int)+1<1):=by omega
 have hRb:¬((R.length:Int)<1):=by omega
 simp[CP,hne,h0,h02];refine C5 (α:=Nat) (fun i=>[(0,.An R),(3,.int .i64 ((l.take i).foldl (fun a b=>if b<a then b else a) x)),(4,.int .i64 ((i:Int)+1))]) (fun _=>⟨[],1⟩) (fun i=>l.length - i) (fun i=>i≤l.length) 0 [] (by simp[Ci]) (by omega) ?_
 intro i hi N hN;by_cases hend:i=l.length
 ·subst hend;rw[List.take_length];simp[CP];exact Z6 hK [] (by simp[EW])
 ·have hil:i<l.length:=by omega
  have hg:=hRg (i+1) (by simp; omega)
  obtain⟨_,hg2⟩:=Y6 hg;have hw:=Y1 ((i:Int)+1+1) (((i+1:Nat):Int)+1);have hlt:(i:Int)+1<(l.length:Int)+1:=by omega
  have hst:(l.take (i+1)).foldl (fun a b=>if b<a then b else a) x=if (x :: l).getD (i+1) 0<(l.take i).foldl (fun a b=>if b<a then b else a) x then (x :: l).getD (i+1) 0 else (l.take i).foldl (fun a b=>if b<a then b else a) x:=by
   rw[List.take_add_one,gE hil,Option.toList_some,List.foldl_append];have:(x :: l).getD (i+1) 0=l[i]:=by rw[List.getD,List.getElem?_cons_succ,gE hil]; rfl
   rw[this];rfl
  have hN1:=hN (i+1);rw[hst]at hN1;have hz:(0:Int)≤(i:Int)+1:=by omega
  have htn:((i:Int)+1).toNat=i+1:=by omega
  generalize (x :: l).getD (i+1) 0=y at *;generalize (l.take i).foldl (fun a b=>if b<a then b else a) x=z at *
  simp[CP,hlt,hg,hg2,hw,hz,htn,hil,KG];exact hN1 [] _ _ (by omega) (by omega) (by simp[Ci])
end Go.Ab
end
section
namespace Go.Ab
open Go Go.AE Go.Proofs
set_option maxRecDepth 100000
set_option maxHeartbeats 400000
def Mb:Av:=by
 have h:=rQ Tryz.f6
 conv at h=>rhs; reduce
 dsimp at h
 exact oR h
theorem Z4x:Bt Tryz.prog Tryz.f6=some Mb:=by kernel_rfl
def UH:Av:=by
 have h:=rQ Tryz.f7
 conv at h=>rhs; reduce
 dsimp at h
 exact oR h
theorem Z4p:Bt Tryz.prog Tryz.f7=some UH:=by kernel_rfl
def Mf:Av:=by
 have h:=rQ Tryz.f10
 conv at h=>rhs; reduce
 dsimp at h
 exact oR h
theorem Z5x:Bt Tryz.prog Tryz.f10=some Mf:=by kernel_rfl
def GF:Av:=by
 have h:=rQ Tryz.f29
 conv at h=>rhs; reduce
 dsimp at h
 exact oR h
theorem Z59:Bt Tryz.prog Tryz.f29=some GF:=by kernel_rfl
def Md:Av:=by
 have h:=rQ Tryz.f30
 conv at h=>rhs; reduce
 dsimp at h
 exact oR h
theorem Z54:Bt Tryz.prog Tryz.f30=some Md:=by kernel_rfl
def HN:Av:=by
 have h:=rQ Tryz.f31
 conv at h=>rhs; reduce
 dsimp at h
 exact oR h
theorem s4:Bt Tryz.prog Tryz.f31=some HN:=by kernel_rfl
def Me:Av:=by
 have h:=rQ Tryz.f55
 conv at h=>rhs; reduce
 exact oR h
theorem zN:Bt Tryz.prog Tryz.f55=some Me:=by kernel_rfl
def HO:Av:=by
 have h:=rQ Tryz.f56
 conv at h=>rhs; reduce
 dsimp at h
 exact oR h
theorem Z5a:Bt Tryz.prog Tryz.f56=some HO:=by kernel_rfl
def Mg:Av:=by
 have h:=rQ Tryz.f57
 conv at h=>rhs; reduce
 dsimp at h
 exact oR h
theorem Z9w:Bt Tryz.prog Tryz.f57=some Mg:=by kernel_rfl
def Mc:Av:=by
 have h:=rQ Tryz.f18
 conv at h=>rhs; reduce
 dsimp at h
 exact oR h
theorem Z3n:Bt Tryz.prog Tryz.f18=some Mc:=by kernel_rfl
def Jc:Av:=by
 have h:=rQ Tryz.f45
 conv at h=>rhs; reduce
 dsimp at h
 exact oR h
theorem Z6c:Bt Tryz.prog Tryz.f45=some Jc:=by kernel_rfl
end Go.Ab
end
