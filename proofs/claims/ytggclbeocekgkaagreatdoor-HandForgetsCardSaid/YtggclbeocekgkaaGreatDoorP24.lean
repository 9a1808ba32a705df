/- Part 24 of the proof: Ra, Rb, Rc, Rd. -/
import Derived.Test.YtggclbeocekgkaaGreatDoorP17
import Derived.Test.YtggclbeocekgkaaGreatDoorP20
import Derived.Test.YtggclbeocekgkaaGreatDoorP22
import Derived.Test.YtggclbeocekgkaaGreatDoorP23
set_option linter.all false
section
namespace Go.Ac
open Go Go.AE Go.Proofs
open Go.Plain
attribute [local simp] Jx JO Js KB Jd JF KN Lg JA A6 B4 A2 B9 A0 B5 JU Ku KF Jq KV JY JI KQ Kg Ky JM JS Jh Ji KU KH JQ Kz Kv KM Kx JG KJ Jy JJ Jz Jp KW Jl Je Kf JB JT KG Ld Kq La JW KL Lb JK Ju Jf JN KS Ko Km Jt KR JL Kp Kb JP Lc Env.get Q9 Ad.at Ad.app Ad.get X2 N1 Aa.cells Aa.one J3 D6 Kt KI Ks Kj KD JX KE JZ JV KO Kh JC Kk Fo F0 M3 J5 I5 T4 Ag KY Jo Le Kw N3 U8 K3 M5 G4 E7 Q1 H2 Bs BW Bv Cm CK Ce GO Aa.AI Q5 Z3 Ai.AI E2 Na C0 LS L1 T5 K5 R0 M7
abbrev Xv(f:Int)(rows:List (List Aa)):Ai:=.cells 7 [[.int .i64 f,.Aj rows,.Ae,.Ae,.Ae,.Av,.Ae]]
abbrev NO(f:Int)(rows:List (List Aa)):Ad:=⟨[(1,Xv f rows)],2⟩
abbrev Mf(f:Int)(rows:List (List Aa)):Ad:=⟨[(2,.cells 1 [[.ptr 1 0 0]]),(1,Xv f rows)],3⟩
set_option maxHeartbeats 1000000 in
theorem cU(f:Int)(rows:List (List Aa))(Ak:∀ q,Z3 q rows=rows)(l:Lt) :
 AV Tryz.prog 212 [.agg (Ab l),.ptr 2 0 0] (Mf f rows) fun r m=>r=.bool (!CZ f l)∧m=Mf f rows:=by
 refine Lv hm Tryz.func212 zP rfl rfl fun K hK=>?_
 rcases l with⟨lk,lg,lr,li,lsn,lo⟩
 have fin:∀ b m,(!CZ f ⟨lk,lg,lr,li,lsn,lo⟩)=b→Bs 3 [] [(0,.bool b)] (Mf f rows) [(0,.bool b)] m→L8 3 K (.bool b) m:=
  fun b m hb h=>by subst hb; exact Z4 hK [] h
 clear hK;by_cases h1:lk=1
 ·by_cases h2:lg<0
  ·have h2':¬0≤lg:=by omega
   simp[Ab,h1,h2]; exact fin _ _ (by simp[CZ,h1,h2']) (by simp[Ak])
  have h2':0≤lg:=by omega
  by_cases h3:f<lg
  ·have h3':¬lg≤f:=by omega
   simp[Ab,h1,h2,h3]; exact fin _ _ (by simp[CZ,h1,h2',h3']) (by simp[Ak])
  have h3':lg≤f:=by omega
  by_cases h4:li=0
  ·by_cases h5:lsn=0
   ·cases lo with
    | true=>
     simp[Ab,h1,h2,h3,h4,h5]; exact fin _ _ (by simp[CZ,h1,h2',h3',h4,h5]) (by simp[Ak])
    | false=>
     simp[Ab,h1,h2,h3,h4,h5]; exact fin _ _ (by simp[CZ,h1,h2',h3',h4,h5]) (by simp[Ak])
   ·simp[Ab,h1,h2,h3,h4,h5]; exact fin _ _ (by simp[CZ,h1,h2',h3',h4,h5]) (by simp[Ak])
  ·simp[Ab,h1,h2,h3,h4]; exact fin _ _ (by simp[CZ,h1,h2',h3',h4]) (by simp[Ak])
 by_cases h2:lk=2
 ·by_cases h3:lg=0
  ·by_cases h4:lr=0
   ·by_cases h5:lsn=1
    ·simp[Ab,h2,h3,h4,h5]; exact fin _ _ (by simp[CZ,h2,h3,h4,h5]) (by simp[Ak])
    ·by_cases h6:lsn = -1
     ·simp[Ab,h2,h3,h4,h6]; exact fin _ _ (by simp[CZ,h2,h3,h4,h6]) (by simp[Ak])
     ·simp[Ab,h2,h3,h4,h5,h6]; exact fin _ _ (by simp[CZ,h2,h3,h4,h5,h6]) (by simp[Ak])
   ·simp[Ab,h2,h3,h4]; exact fin _ _ (by simp[CZ,h2,h3,h4]) (by simp[Ak])
  ·simp[Ab,h2,h3]; exact fin _ _ (by simp[CZ,h2,h3]) (by simp[Ak])
 ·simp[Ab,h1,h2]; exact fin _ _ (by simp[CZ,h1,h2]) (by simp[Ak])
set_option maxHeartbeats 1000000 in
theorem cW(f:Int)(ls:List Lt)(h:ls.length≤1000) :
 AV Tryz.prog 273 [.Aj (ls.map Ab),.func (.func 212) [] [.ptr 2 0 0]] (Mf f (ls.map Ab)) fun r m=>(∃ n:Int,r=.int .i64 n∧decide (0≤n) = !ls.all (CZ f))∧m=Mf f (ls.map Ab):=by
 refine W9 hm Tryz.func273 YY rfl rfl fun K hK=>?_
 have hR:=E3 ls;have Ak:∀ q,Z3 q (ls.map Ab)=ls.map Ab:=fun q=>Y1 q _ (X5 ls)
 have hc:=fun l=>cU f (ls.map Ab) Ak l
 generalize ls.map Ab=rows at *;have hlen:=hR.len;have fin:∀ (n:Int) m,decide (0≤n)=(!ls.all (CZ f))→Bs 3 [] [(0,.int .i64 n)] (Mf f rows) [(0,.int .i64 n)] m→L8 3 K (.int .i64 n) m:=
  fun n m hb h=>Z4 (hK (.int .i64 n) (Mf f rows) ⟨⟨n,rfl,hb⟩,rfl⟩) [] h
 clear hK;simp;refine W5 (α:=Nat) (fun i=>[(8,.int .i64 i),(7,.int .i64 ls.length),(1,.func (.func 212) [] [.ptr 2 0 0]),(0,.Aj rows)]) (fun i=>⟨[(2,.cells 1 [[.ptr 1 0 0]]),(1,Xv f rows)],5⟩)
  (fun i=>ls.length - i) (fun i=>i≤ls.length∧(ls.take i).all (CZ f)=true) 0 [] (by simp[Ak,hlen]) (by simp) ?_
 rintro i ⟨hi,hall⟩ N hN;by_cases hlt:i<ls.length
 ·have hrow:=hR.row i hlt;obtain⟨hil,hrow2⟩:=gS.1 hrow;have hw1:=Y7 ((i:Int)+1);have hnext:ls.take (i+1)=ls.take i++[at' ls i]:=by
   rw[List.take_add_one,at',List.getD,gE hlt];rfl
  have hin:at' ls i∈ls:=O0 hlt;simp[hlen,hlt,hrow2,Ab];refine Z6 (hc (at' ls i)) [(1,1),(2,2)] (by simp[Ab]) (by simp[Ak]) (by simp) ?_
  rintro r sm ⟨rfl,rfl⟩;cases hok:CZ f (at' ls i)with
  | true=>
   simp[Ak,hw1];exact hN (i+1) [] _ _ (by omega) ⟨by omega,by rw[hnext,List.all_append,hall]; simp[hok]⟩ (by simp[Ak])
  | false=>
   have hno:ls.all (CZ f)=false:=by rw[List.all_eq_false]; exact⟨_,hin,by simp[hok]⟩
   simp[Ak];exact fin _ _ (by simp[hno]) (by simp[Ak])
 ·have he:i=ls.length:=by omega
  subst he;rw[List.take_length]at hall;simp[];exact fin _ _ (by simp[hall]) (by simp[Ak])
theorem cT(f:Int)(ls:List Lt)(h:ls.length≤1000) :
 AV Tryz.prog 211 [.Aj (ls.map Ab),.func (.func 212) [] [.ptr 2 0 0]] (Mf f (ls.map Ab)) fun r m=>r=.bool (!ls.all (CZ f))∧m=Mf f (ls.map Ab):=by
 refine Lv hm Tryz.func211 uU rfl rfl fun K hK=>?_
 have Ak:∀ q,Z3 q (ls.map Ab)=ls.map Ab:=fun q=>Y1 q _ (X5 ls)
 have hc:=cW f ls h;generalize ls.map Ab=rows at *;simp;refine Z6 hc [(1,1),(2,2)] (by simp[Ak]) (by simp[Ak]) (by simp) ?_
 rintro r sm ⟨⟨n,rfl,hn⟩,rfl⟩;simp[Ak,hn];exact Z4 hK [] (by simp[Ak])
theorem cA(f:Int)(ls:List Lt)(h:ls.length≤1000) :
 AV Tryz.prog 134 [.ptr 1 0 0] (NO f (ls.map Ab)) fun r m=>r=.bool (ls.all (CZ f))∧m=NO f (ls.map Ab):=by
 refine Lv hm Tryz.func134 mH rfl rfl fun K hK=>?_
 have Ak:∀ q,Z3 q (ls.map Ab)=ls.map Ab:=fun q=>Y1 q _ (X5 ls)
 have hc:=cT f ls h;generalize ls.map Ab=rows at *;simp;refine Z6 hc [(1,1),(2,2)] (by simp[Ak]) (by simp[Ak]) (by simp) ?_
 rintro r sm ⟨rfl,rfl⟩;simp[Ak];exact Z4 hK [] (by simp[Ak])
theorem cB(f:Int)(ls:List Lt)(h:ls.length≤1000)(h0:0<ls.length) :
 AV Tryz.prog 135 [.ptr 1 0 0] (NO f (ls.map Ab)) fun r m=>r=.bool (decide ((at' ls 0).k=1)&&decide (Z0 ls % 2=0))∧m=NO f (ls.map Ab):=by
 refine Lv hm Tryz.func135 vQ rfl rfl fun K hK=>?_
 have hR:=E3 ls;have Ak:∀ q,Z3 q (ls.map Ab)=ls.map Ab:=fun q=>Y1 q _ (X5 ls)
 have hc:=P8 f ls h;unfold cV at hc;generalize ls.map Ab=rows at *;have hlen:=hR.len;have hrow:=hR.row 0 h0;by_cases hk:(at' ls 0).k=1
 ·simp[hrow,Ab,hk];refine Y5 hc ?_;simp[Zn];refine Z4 (v0:=.bool (decide ((at' ls 0).k=1)&&decide (Z0 ls % 2=0))) hK [] ?_;simp[Ak,hk,Z0];exact decide_eq_decide.2 (by omega)
 ·simp[hrow,Ab,hk];refine Z4 (v0:=.bool (decide ((at' ls 0).k=1)&&decide (Z0 ls % 2=0))) hK [] ?_;simp[Ak,hk]
end Go.Ac
end
section
namespace Go.Ac
open Go Go.AE Go.Proofs
open Go.Plain
attribute [local simp] Jx JO Js KB Jd JF KN Lg JA A6 B4 A2 B9 A0 B5 JU Ku KF Jq KV JY JI KQ Kg Ky JM JS Jh Ji KU KH JQ Kz Kv KM Kx JG KJ Jy JJ Jz Jp KW Jl Je Kf JB JT KG Ld Kq La JW KL Lb JK Ju Jf JN KS Ko Km Jt KR JL Kp Kb JP Lc Env.get Q9 Ad.at Ad.app Ad.get X2 N1 Aa.cells Aa.one J3 D6 Kt KI Ks Kj KD JX KE JZ JV KO Kh JC Kk Fo F0 M3 J5 I5 T4 Ag KY Jo Le Kw N3 U8 K3 M5 G4 E7 Q1 H2 Bs BW Bv Cm CK Ce GO Aa.AI Q5 Z3 Ai.AI
abbrev Bf(l:List Bool):List (List Aa):=l.map fun b=>[Aa.bool b]
theorem Z7(q:Nat→Nat)(l:List Nat):Z3 q (Y3 l)=Y3 l:=Y1 q _ (bL l)
theorem oW:∀ (l:List Bool),U3 (Bf l)=true
 | []=>rfl
 | x :: r=>by simp only[Bf,List.map_cons,U3]; exact oW r
theorem X4(q:Nat→Nat)(l:List Bool):Z3 q (Bf l)=Bf l:=Y1 q _ (oW l)
theorem Vt(l:List Nat)(i x:Nat):(Y3 l).set i [Aa.int .i64 (x:Int)]=Y3 (l.set i x):=by rw[Y3,Y3,List.map_set]
theorem RF(l:List Bool)(i:Nat)(x:Bool):(Bf l).set i [Aa.bool x]=Bf (l.set i x):=by rw[Bf,Bf,List.map_set]
theorem Wa(n x:Nat):Y3 (List.replicate n x)=List.replicate n [Aa.int .i64 (x:Int)]:=by simp[Y3]
theorem Ss(n:Nat)(b:Bool):Bf (List.replicate n b)=List.replicate n [Aa.bool b]:=by simp[Bf]
theorem Jm{l:List Nat}{i x:Nat}(h:l[i]? = some x):(Y3 l)[i]? = some [Aa.int .i64 (x:Int)]:=by rw[Y3,gM,h]; rfl
theorem JE{l:List Bool}{i:Nat}{x:Bool}(h:l[i]? = some x):(Bf l)[i]? = some [Aa.bool x]:=by rw[Bf,gM,h]; rfl
theorem C9(l:List Nat):(Y3 l).length=l.length:=by rw[Y3,lM]
theorem Y8{α:Type}{l:List α}{i:Nat}{x:α}(h:l[i]? = some x):∃ hi:i<l.length,l[i]=x:=gS.1 h
theorem Tj{ls:List Lt}{i:Nat}(h:i<ls.length):Z8 ls (i+1)=if Am (at' ls i)then !Z8 ls i else Z8 ls i:=by
 unfold Z8 Z0;rw[Vn h];cases Am (at' ls i)with
 | false=>simp
 | true=>
  rw[Bool.eq_iff_iff];simp;omega
abbrev Xw(F n m:Nat)(rows:List (List Aa)):Ai:=.cells 7 [[.int .i64 (F:Int),.Aj rows,.sl 3 0 n,.sl 5 0 m,.sl 4 0 n,.Av,.sl 2 0 (F+1)]]
abbrev dR(F:Nat)(ls:List Lt)(rows:List (List Aa)):Ad:=
 ⟨[(1,Xw F ls.length (Z0 ls) rows),(2,.cells 1 (Y3 (U5 F ls))),(3,.cells 1 (Bf (W4 ls.length ls.length (U2 ls) false))),(4,.cells 1 (Y3 (W4 ls.length ls.length (R6 ls) 0))),(5,.cells 1 (Y3 (L7 ls (Z0 ls) ls.length)))],6⟩
set_option maxRecDepth 100000 in
set_option maxHeartbeats 4000000 in
theorem cC(F:Nat)(ls:List Lt)(h:ls.length≤1000)(hF:F≤1000)(hG:Hi F ls) :
 AV Tryz.prog 136 [.ptr 1 0 0] (NO F (ls.map Ab)) fun r m=>(DF ls (Z0 ls) ls.length=true∧r=.bool true∧m=dR F ls (ls.map Ab))∨(DF ls (Z0 ls) ls.length=false∧r=.bool false∧m=⟨[],2⟩):=by
 refine W9 hm Tryz.func136 tF rfl rfl fun K hK=>?_
 have hR:=E3 ls;have Ak:∀ q,Z3 q (ls.map Ab)=ls.map Ab:=fun q=>Y1 q _ (X5 ls)
 have hyes:DF ls (Z0 ls) ls.length=true → ∀ l m,Bs 2 l [(0,.bool true)] (dR F ls (ls.map Ab)) [(0,.bool true)] m→L8 2 K (.bool true) m:=
  fun hr l m hs=>Z4 (hK _ _ (.inl ⟨hr,rfl,rfl⟩)) l hs
 have hno:DF ls (Z0 ls) ls.length=false → ∀ l m,Bs 2 l [(0,.bool false)] ⟨[],2⟩ [(0,.bool false)] m→L8 2 K (.bool false) m:=
  fun hr l m hs=>Z4 (hK _ _ (.inr ⟨hr,rfl,rfl⟩)) l hs
 clear hK;generalize ls.map Ab=rows at *;have hlen:=hR.len;have hpl:Z0 ls≤ls.length:=B3;have hwF:IntKind.i64.wrap ((F:Int)+1)=((F+1:Nat):Int):=by rw[G8 (by omega) (by omega)]; rfl
 have hF0:F+1≤1048576:=by omega
 have hn0:ls.length≤1048576:=by omega
 have e1:List.replicate (F+1) [Aa.int .i64 0]=Y3 (U5 F (ls.take 0)):=by rw[List.take_zero,sN,Wa]; rfl
 have e2:List.replicate ls.length [Aa.bool false]=Bf (W4 ls.length 0 (U2 ls) false):=by rw[aA,Ss]
 have e3:List.replicate ls.length [Aa.int .i64 0]=Y3 (W4 ls.length 0 (R6 ls) 0):=by rw[aA,Wa]; rfl
 simp[-Int.natCast_add,T5,hwF,hF0,hlen,hn0,e1,e2,e3];refine W5 (α:=Nat) (fun i=>[(50,.int .i64 i),(49,.int .i64 ls.length),(48,.Aj rows),(3,.bool (Z8 ls i)),(0,.ptr 1 0 0)])
  (fun i=>⟨[(1,.cells 7 [[.int .i64 (F:Int),.Aj rows,.sl 3 0 ls.length,.Ae,.sl 4 0 ls.length,.Av,.sl 2 0 (F+1)]]),(2,.cells 1 (Y3 (U5 F (ls.take i)))),(3,.cells 1 (Bf (W4 ls.length i (U2 ls) false))),(4,.cells 1 (Y3 (W4 ls.length 0 (R6 ls) 0)))],5⟩)
  (fun i=>ls.length - i) (fun i=>i≤ls.length) 0 [(2,10),(3,21),(4,32)] (by simp[Ak,Z7,X4,Z8,Z0,Z9]) (by simp) ?_
 intro i hi N hN
 try simp only at hi hN ⊢
 by_cases hlt:i<ls.length
 ·have hrow:=hR.row i hlt;obtain⟨_,hrow2⟩:=Y8 hrow;have hw1:=Y7 ((i:Int)+1);have hnext:ls.take (i+1)=ls.take i++[at' ls i]:=by
   rw[List.take_add_one,at',List.getD,gE hlt];rfl
  have hds:=Tj hlt;by_cases hk:(at' ls i).k=1
  ·have hp:Am (at' ls i)=true:=by simp[Am,hk]
   obtain⟨hg1,hg2⟩:=hG _ (O0 hlt) hp;obtain⟨G,hg⟩:∃ G:Nat,(at' ls i).g=(G:Nat):=⟨(at' ls i).g.toNat,by omega⟩
   have hGF:G≤F:=by omega
   have hGF1:G<F+1:=by omega
   have hc:=Jm (Nb (ls:=ls.take i) hGF);have hcs:=tJ (F:=F) (ls:=ls.take i) hp hg hGF;have BT:Ay G (ls.take i)≤i:=Zy i;have hwc:IntKind.i64.wrap ((Ay G (ls.take i):Nat)+1:Int)=((Ay G (ls.take i)+1:Nat):Int):=by rw[G8 (by omega) (by omega)]; rfl
   have hC':=Vt (U5 F (ls.take i)) G (Ay G (ls.take i)+1);rw[hcs,← hnext]at hC';have hCl:(Y3 (U5 F (ls.take i))).length=F+1:=by rw[C9,Jr]
   have hDv:U2 ls i=Z8 ls i:=by simp[U2,hp]
   have hD':=RF (W4 ls.length i (U2 ls) false) i (U2 ls i);rw[ZO hlt,hDv]at hD';have hDg:=JE (Ki (i:=i) (v:=U2 ls) (d:=false) hlt);have hDl:(Bf (W4 ls.length i (U2 ls) false)).length=ls.length:=by rw[Bf,lM,Hp]
   rw[iP hp]at hds;simp only[Nat.lt_irrefl,if_false]at hDg;generalize Y3 (U5 F (ls.take i))=C at *;generalize Bf (W4 ls.length i (U2 ls) false)=D at *;obtain⟨_,hc2⟩:=Y8 hc;obtain⟨_,hDg2⟩:=Y8 hDg;simp[-Int.natCast_add,hlen,hlt,hrow2,Ab,hk,hg,hc2,hCl,hGF1,hwc,hC',hDg2,hDl,hD',hw1];exact hN (i+1) [] _ _ (by omega) (by omega) (by simp[Ak,Z7,X4,hds])
  ·have hp:Am (at' ls i)=false:=by simp[Am,hk]
   have hcs:=oV (F:=F) (ls:=ls.take i) hp;rw[← hnext]at hcs;have hD:=mG (n:=ls.length) (i:=i) (v:=U2 ls) (d:=false) (by simp[U2,hp])
   rw[iN (by simp[hp])]at hds
   simp[-Int.natCast_add,hlen,hlt,hrow2,Ab,hk,hw1];exact hN (i+1) [] _ _ (by omega) (by omega) (by simp[Ak,Z7,X4,hds,hcs,hD])
 have he:i=ls.length:=by omega
 subst he;clear hN;rw[List.take_length];have e4:List.replicate (F+1) [Aa.int .i64 0]=Y3 (W4 (F+1) 0 (tot ls) 0):=by rw[aA,Wa]; rfl
 simp[-Int.natCast_add,T5,hwF,hF0,e4];refine W5 (α:=Nat) (fun g=>[(90,.int .i64 g),(89,.int .i64 ((F+1:Nat):Int)),(88,.sl 2 0 (F+1)),(7,.int .i64 (tot ls g:Nat)),(6,.sl 5 0 (F+1)),(0,.ptr 1 0 0)])
  (fun g=>⟨[(1,.cells 7 [[.int .i64 (F:Int),.Aj rows,.sl 3 0 ls.length,.Ae,.sl 4 0 ls.length,.Av,.sl 2 0 (F+1)]]),(2,.cells 1 (Y3 (U5 F ls))),(3,.cells 1 (Bf (W4 ls.length ls.length (U2 ls) false))),(4,.cells 1 (Y3 (W4 ls.length 0 (R6 ls) 0))),(5,.cells 1 (Y3 (W4 (F+1) g (tot ls) 0)))],6⟩)
  (fun g=>F+1 - g) (fun g=>g≤F+1) 0 [(5,12)] (by simp[Ak,Z7,X4,Z3r hG]) (by simp) ?_
 intro g hg N hN
 try simp only at hg hN ⊢
 by_cases hlt:g<F+1
 ·have hw1:=Y7 ((g:Int)+1);have hc:=Jm (Nb (ls:=ls) (show g≤F by omega))
  have hCl:(Y3 (U5 F ls)).length=F+1:=by rw[C9,Jr]
  have hts:=Th ls g;have htl:=qX ls (g+1);have hwt:=M2 ((tot ls g:Nat)+(Ay g ls:Nat):Int) ((tot ls (g+1):Nat):Int);have hFg:=Jm (Ki (i:=g) (v:=tot ls) (d:=0) hlt);have hFs:=Vt (W4 (F+1) g (tot ls) 0) g (tot ls g);rw[ZO hlt]at hFs;have hFl:(Y3 (W4 (F+1) g (tot ls) 0)).length=F+1:=by rw[C9,Hp]
  simp only[Nat.lt_irrefl,if_false]at hFg;generalize Y3 (W4 (F+1) g (tot ls) 0)=T at *;generalize hCe:Y3 (U5 F ls)=C at *;obtain⟨_,hc2⟩:=Y8 hc;obtain⟨_,hFg2⟩:=Y8 hFg;have hrC:∀ q,Z3 q C=C:=fun q=>by rw[← hCe]; exact Z7 q _
  simp[-Int.natCast_add,hlt,hc2,hCl,hwt,hFg2,hFs,hFl,hw1];exact hN (g+1) [] _ _ (by omega) (by omega) (by simp[Ak,Z7,X4,hrC])
 have he:g=F+1:=by omega
 subst he;clear hN;rw[zn hG];have Gt:Z0 ls≤1048576:=by omega
 have e5:List.replicate (Z0 ls) [Aa.int .i64 0]=Y3 (L7 ls (Z0 ls) 0):=by rw[L7,Wa]; rfl
 have e6:List.replicate (Z0 ls) [Aa.bool false]=Bf (M6 ls (Z0 ls) 0):=by rw[M6,Ss]
 simp[-Int.natCast_add,T5,hlen,Gt,e5,e6];refine W5 (α:=Nat) (fun i=>[(116,.int .i64 i),(115,.int .i64 ls.length),(114,.Aj rows),(10,.sl 7 0 (Z0 ls)),(6,.sl 6 0 (F+1)),(0,.ptr 1 0 0)])
  (fun i=>⟨[(1,Xw F ls.length (Z0 ls) rows),(2,.cells 1 (Y3 (U5 F ls))),(3,.cells 1 (Bf (W4 ls.length ls.length (U2 ls) false))),(4,.cells 1 (Y3 (W4 ls.length i (R6 ls) 0))),(5,.cells 1 (Y3 (L7 ls (Z0 ls) i))),(6,.cells 1 (Y3 (W4 (F+1) (F+1) (tot ls) 0))),(7,.cells 1 (Bf (M6 ls (Z0 ls) i)))],8⟩)
  (fun i=>ls.length - i) (fun i=>i≤ls.length∧DF ls (Z0 ls) i=true) 0 [(6,5),(5,9),(7,14)] (by simp[Ak,Z7,X4]) (by simp[DF]) ?_
 rintro i ⟨hi,hrk⟩ N hN
 try simp only at hi hrk hN ⊢
 by_cases hlt:i<ls.length
 ·have hrow:=hR.row i hlt;obtain⟨_,hrow2⟩:=Y8 hrow;have hw1:=Y7 ((i:Int)+1);by_cases hk:(at' ls i).k=1
  ·have hp:Am (at' ls i)=true:=by simp[Am,hk]
   have hin:=O0 hlt;obtain⟨hg1,hg2⟩:=hG _ hin hp;have CB:DF ls (Z0 ls) (i+1)=(decide (1≤(at' ls i).r)&&decide ((at' ls i).r≤(Ay (at' ls i).g ls:Nat)) && !(M6 ls (Z0 ls) i).getD (pos ls (at' ls i)) true):=by
    simp[DF,hrk,hp]
   have DO:DF ls (Z0 ls) (i+1)=false→DF ls (Z0 ls) ls.length=false:=fun hb=>by
    cases hq:DF ls (Z0 ls) ls.length with
    | false=>rfl
    | true=>rw[vq (show i+1≤ls.length by omega) hq]at hb; cases hb
   by_cases hr1:(at' ls i).r<1
   ·simp[-Int.natCast_add,hlen,hlt,hrow2,Ab,hk,hr1];exact hno (DO (by rw[CB]; simp; omega)) [] _ (by simp)
   obtain⟨G,hg⟩:∃ G:Nat,(at' ls i).g=(G:Nat):=⟨(at' ls i).g.toNat,by omega⟩
   have hGF:G≤F:=by omega
   have hGF1:G<F+1:=by omega
   have hc:=Jm (Nb (ls:=ls) hGF);have hCl:(Y3 (U5 F ls)).length=F+1:=by rw[C9,Jr]
   by_cases hr2:(Ay (G:Nat) ls:Nat)<(at' ls i).r
   ·generalize Y3 (U5 F ls)=C at *;obtain⟨_,hc2⟩:=Y8 hc;simp[-Int.natCast_add,hlen,hlt,hrow2,Ab,hk,hr1,hg,hc2,hCl,hGF1,hr2];exact hno (DO (by rw[CB,hg]; simp; omega)) [] _ (by simp)
   have hpos:=WI hG hin hp (by omega) (by rw[hg]; omega)
   have hpe:=VF (ls:=ls) hg;have hFg:=Jm (Ki (n:=F+1) (i:=F+1) (v:=tot ls) (d:=0) (j:=G) hGF1);rw[iP hGF1]at hFg;have hFl:(Y3 (W4 (F+1) (F+1) (tot ls) 0)).length=F+1:=by rw[C9,Hp]
   have hwa:=M2 ((tot ls G:Nat)+(at' ls i).r) ((pos ls (at' ls i)+1:Nat):Int);have hwb:=M2 (((pos ls (at' ls i)+1:Nat):Int) - 1) ((pos ls (at' ls i):Nat):Int);have htl:=uB ls (Z0 ls) i;have hxl:=Xi ls (Z0 ls) i;obtain⟨tb,htb⟩:∃ tb,(M6 ls (Z0 ls) i)[pos ls (at' ls i)]? = some tb:=⟨_,gE (by omega)⟩
   have htg:(M6 ls (Z0 ls) i).getD (pos ls (at' ls i)) true=tb:=by rw[List.getD,htb]; rfl
   have htb':=JE htb;have hTl:(Bf (M6 ls (Z0 ls) i)).length=Z0 ls:=by rw[Bf,lM,htl]
   have hTs:=RF (M6 ls (Z0 ls) i) (pos ls (at' ls i)) true;have hT1:(M6 ls (Z0 ls) i).set (pos ls (at' ls i)) true=M6 ls (Z0 ls) (i+1):=by simp[M6,hp]
   rw[hT1]at hTs;have hXl:(Y3 (L7 ls (Z0 ls) i)).length=Z0 ls:=by rw[C9,hxl]
   have hXs:=Vt (L7 ls (Z0 ls) i) (pos ls (at' ls i)) i;have hX1:(L7 ls (Z0 ls) i).set (pos ls (at' ls i)) i=L7 ls (Z0 ls) (i+1):=by simp[L7,hp]
   rw[hX1]at hXs;obtain⟨xv,hxv⟩:∃ xv,(L7 ls (Z0 ls) i)[pos ls (at' ls i)]? = some xv:=⟨_,gE (by omega)⟩
   have hxv':=Jm hxv;have hPl:(Y3 (W4 ls.length i (R6 ls) 0)).length=ls.length:=by rw[C9,Hp]
   have hPv:R6 ls i=pos ls (at' ls i):=by simp[R6,hp]
   have hPs:=Vt (W4 ls.length i (R6 ls) 0) i (R6 ls i);rw[ZO hlt,hPv]at hPs;have hPg:=Jm (Ki (i:=i) (v:=R6 ls) (d:=0) hlt);simp only[Nat.lt_irrefl,if_false]at hPg;rw[htg,hg]at CB;clear hpe hxl hxv htb htg htl hX1 hT1 hPv;generalize hp':pos ls (at' ls i)=p at *;generalize hCe:Y3 (U5 F ls)=C at *;generalize hFe:Y3 (W4 (F+1) (F+1) (tot ls) 0)=T at *;generalize Bf (M6 ls (Z0 ls) i)=B at *;generalize Y3 (L7 ls (Z0 ls) i)=X at *;generalize Y3 (W4 ls.length i (R6 ls) 0)=Y at *;have hrC:∀ q,Z3 q C=C:=fun q=>by rw[← hCe]; exact Z7 q _
   have hrT:∀ q,Z3 q T=T:=fun q=>by rw[← hFe]; exact Z7 q _
   obtain⟨_,hc2⟩:=Y8 hc;obtain⟨_,hFg2⟩:=Y8 hFg;obtain⟨_,htb2⟩:=Y8 htb';obtain⟨_,hxv2⟩:=Y8 hxv';obtain⟨_,hPg2⟩:=Y8 hPg;cases tb with
   | true=>
    simp[-Int.natCast_add,hlen,hlt,hrow2,Ab,hk,hr1,hg,hc2,hCl,hGF1,hr2,hFg2,hFl,hwa,hwb,hpos,htb2,hTl];exact hno (DO (by rw[CB]; simp)) [] _ (by simp)
   | false=>
    simp[-Int.natCast_add,hlen,hlt,hrow2,Ab,hk,hr1,hg,hc2,hCl,hGF1,hr2,hFg2,hFl,hwa,hwb,hpos,htb2,hTl,hTs,hXl,hxv2,hXs,hPl,hPg2,hPs,hw1];exact hN (i+1) [] _ _ (by omega) ⟨by omega,by rw[CB]; simp; omega⟩ (by simp[Ak,Z7,X4,hrC,hrT])
  ·have hp:Am (at' ls i)=false:=by simp[Am,hk]
   have hT:M6 ls (Z0 ls) (i+1)=M6 ls (Z0 ls) i:=by simp[M6,hp]
   have hX:L7 ls (Z0 ls) (i+1)=L7 ls (Z0 ls) i:=by simp[L7,hp]
   have hY:=mG (n:=ls.length) (i:=i) (v:=R6 ls) (d:=0) (by simp[R6,hp])
   simp[-Int.natCast_add,hlen,hlt,hrow2,Ab,hk,hw1];exact hN (i+1) [] _ _ (by omega) ⟨by omega,by simp[DF,hrk,hp]⟩ (by simp[Ak,Z7,X4,hT,hX,hY])
 have he:i=ls.length:=by omega
 subst he;simp[-Int.natCast_add];exact hyes hrk [] _ (by simp[Ak,Z7,X4])
end Go.Ac
end
section
namespace Go.Ac
open Go Go.AE Go.Proofs
open Go.Plain
attribute [local simp] Jx JO Js KB Jd JF KN Lg JA A6 B4 A2 B9 A0 B5 JU Ku KF Jq KV JY JI KQ Kg Ky JM JS Jh Ji KU KH JQ Kz Kv KM Kx JG KJ Jy JJ Jz Jp KW Jl Je Kf JB JT KG Ld Kq La JW KL Lb JK Ju Jf JN KS Ko Km Jt KR JL Kp Kb JP Lc Env.get Q9 Ad.at Ad.app Ad.get X2 N1 Aa.cells Aa.one J3 D6 Kt KI Ks Kj KD JX KE JZ JV KO Kh JC Kk Fo F0 M3 J5 I5 T4 Ag KY Jo Le Kw N3 U8 K3 M5 G4 E7 Q1 H2 Bs BW Bv Cm CK Ce GO Aa.AI Q5 Z3 Ai.AI T3 T2 W2 FT.indep I9 GL D7 Ed IS Tk
abbrev Et(v:Int×Int):Aa:=.agg [.int .i64 v.1,.int .i64 v.2]
def Eg:Nat→List Db→List (Aa×Aa×Nat)
 | _,[]=>[]
 | j,(k,v) :: r=>(.int .i64 k,Et v,j) :: Eg (j+1) r
theorem SO:∀ (j:Nat) (E:List Db),(Eg j E).length=E.length
 | _,[]=>rfl
 | j,(k,v) :: r=>by simp only[Eg,lC,SO (j+1) r]
theorem Y0(q:Nat→Nat):∀ (j:Nat) (E:List Db),Fc q (Eg j E)=Eg j E
 | _,[]=>rfl
 | j,(k,v) :: r=>by
  have:=Y0 q (j+1) r;simp only[Fc,Eg,List.map_cons,Aa.AI,Q5]at *;rw[this]
theorem Wr(id:Int):∀ (j:Nat) (E:List Db),L3 .int (.int .i64 id) (Eg j E)=some (match CM id E with
 | some (p,v)=>some (p,Et v,j+p)
 | none=>none)
 | _,[]=>rfl
 | j,(k,v) :: r=>by
  simp only[Eg,L3,G0,if_true,CM];by_cases h:id=k
  ·subst h; simp
  ·have hb:(id == k)=false:=by simpa using h
   simp only[hb,iN h];rw[Wr id (j+1) r];cases CM id r with
   | none=>rfl
   | some pw=>obtain ⟨p,w⟩:=pw; simp only; congr 4; omega
theorem sK(k:Int)(v:Int×Int):∀ (j p:Nat) (E:List Db),(Eg j E).set p (.int .i64 k,Et v,j+p)=Eg j (E.set p (k,v))
 | _,_,[]=>rfl
 | j,0,(k',v') :: r=>rfl
 | j,p+1,(k',v') :: r=>by
  simp only[Eg,List.set_cons_succ];have:=sK k v (j+1) p r;rw[show j+1+p=j+(p+1) by omega]at this
  rw[this]
theorem vE(k:Int)(v:Int×Int):∀ (j:Nat) (E:List Db),Eg j E++[(.int .i64 k,Et v,j+E.length)]=Eg j (E++[(k,v)])
 | _,[]=>rfl
 | j,(k',v') :: r=>by
  simp only[Eg,List.cons_append,lC];have:=vE k v (j+1) r;rw[show j+1+r.length=j+(r.length+1) by omega]at this
  rw[this]
abbrev GR(F n m:Nat)(rows:List (List Aa)):Ai:=.cells 7 [[.int .i64 (F:Int),.Aj rows,.sl 3 0 n,.sl 5 0 m,.sl 4 0 n,.map 6,.sl 2 0 (F+1)]]
abbrev dM(F n m:Nat)(rows A B C D:List (List Aa))(E:List Db):Ad:=
 ⟨[(1,GR F n m rows),(2,.cells 1 A),(3,.cells 1 B),(4,.cells 1 C),(5,.cells 1 D),(6,.map (Eg 0 E) E.length)],7⟩
set_option maxRecDepth 100000 in
set_option maxHeartbeats 4000000 in
theorem cD(F:Nat)(ls:List Lt)(m:Nat)(h:ls.length≤1000)(A B C D:List (List Aa))(hA:∀ q,Z3 q A=A)(hB:∀ q,Z3 q B=B)(hC:∀ q,Z3 q C=C)(hD:∀ q,Z3 q D=D) :
 AV Tryz.prog 137 [.ptr 1 0 0] ⟨[(1,Xw F ls.length m (ls.map Ab)),(2,.cells 1 A),(3,.cells 1 B),(4,.cells 1 C),(5,.cells 1 D)],6⟩ fun r sm=>
  ((X0 ls % 2=0∧DZ ls (X0 ls) ls.length=true∧(Ba ls ls.length).length=X0 ls / 2)∧r=.bool true∧sm=dM F ls.length m (ls.map Ab) A B C D (Ba ls ls.length)) ∨
  (¬(X0 ls % 2=0∧DZ ls (X0 ls) ls.length=true∧(Ba ls ls.length).length=X0 ls / 2)∧r=.bool false∧sm=⟨[],6⟩):=by
 refine W9 hm Tryz.func137 xQ rfl rfl fun K hK=>?_
 have hR:=E3 ls;have Ak:∀ q,Z3 q (ls.map Ab)=ls.map Ab:=fun q=>Y1 q _ (X5 ls)
 have hyes:(X0 ls % 2=0∧DZ ls (X0 ls) ls.length=true∧(Ba ls ls.length).length=X0 ls / 2) → ∀ l m',Bs 6 l [(0,.bool true)] (dM F ls.length m (ls.map Ab) A B C D (Ba ls ls.length)) [(0,.bool true)] m'→L8 6 K (.bool true) m':=
  fun hr l m' hs=>Z4 (hK _ _ (.inl ⟨hr,rfl,rfl⟩)) l hs
 have hno:¬(X0 ls % 2=0∧DZ ls (X0 ls) ls.length=true∧(Ba ls ls.length).length=X0 ls / 2) → ∀ l m',Bs 6 l [(0,.bool false)] ⟨[],6⟩ [(0,.bool false)] m'→L8 6 K (.bool false) m':=
  fun hr l m' hs=>Z4 (hK _ _ (.inr ⟨hr,rfl,rfl⟩)) l hs
 clear hK;have hc103:=P7 F ls h;unfold cV at hc103;generalize ls.map Ab=rows at *;have hlen:=hR.len;have hvl:X0 ls≤ls.length:=B3;simp[-Int.natCast_add];refine Y5 hc103 ?_;have hve:Z9 Bg ls=X0 ls:=rfl;rw[hve];generalize hv:X0 ls=nv at *;by_cases hpar:nv % 2=0
 rotate_left
 ·have hpar':¬(((nv % 2:Nat):Int)=0):=by omega
  simp[-Int.natCast_emod,Zn,hpar];exact hno (fun hh=>hpar hh.1) [] _ (by simp)
 have hpar':((nv % 2:Nat):Int)=0:=by omega
 simp[-Int.natCast_emod,Zn,hpar,hlen];refine W5 (α:=Nat) (fun i=>[(27,.int .i64 i),(26,.int .i64 ls.length),(25,.Aj rows),(3,.int .i64 nv),(0,.ptr 1 0 0)])
  (fun i=>dM F ls.length m rows A B C D (Ba ls i)) (fun i=>ls.length - i) (fun i=>i≤ls.length∧DZ ls nv i=true) 0 [(6,17)] (by simp[Fc,Ak,hA,hB,hC,hD,Ba,Eg]) (by simp[DZ]) ?_
 rintro i ⟨hi,Cx⟩ N hN
 try simp only at hi Cx hN ⊢
 by_cases hlt:i<ls.length
 ·have hrow:=hR.row i hlt;obtain⟨_,hrow2⟩:=Y8 hrow;have hw1:=Y7 ((i:Int)+1);by_cases hk:(at' ls i).k=2
  ·have hp:Bg (at' ls i)=true:=by simp[Bg,hk]
   have CB:DZ ls nv (i+1)=(decide (1≤(at' ls i).i)&&decide ((at' ls i).i≤(nv / 2:Nat))&&EZ ls (Ba ls i) (at' ls i)):=by
    simp[DZ,Cx,hp]
   have hes:Ba ls (i+1)=Ee (Ba ls i) (at' ls i).i (at' ls i).o i:=by simp[Ba,hp]
   have DO:DZ ls nv (i+1)=false → ¬(nv % 2=0∧DZ ls nv ls.length=true∧(Ba ls ls.length).length=nv / 2):=fun hb hq=>by
    rw[Z42 (show i+1≤ls.length by omega) hq.2.1]at hb; cases hb
   have hwq:=Y7 ((nv:Int) / 2);by_cases hr1:(at' ls i).i<1
   ·simp[hlen,hlt,hrow2,Ab,hk,hr1];exact hno (DO (by rw[CB]; simp; omega)) [] _ (by simp)
   by_cases hr2:(nv:Int) / 2<(at' ls i).i
   ·simp[hlen,hlt,hrow2,Ab,hk,hr1,hwq,hr2];exact hno (DO (by rw[CB]; simp; omega)) [] _ (by simp)
   have hfa:=Wr (at' ls i).i 0 (Ba ls i);have hvo:=Oh ls i;cases hf:CM (at' ls i).i (Ba ls i)with
   | none=>
    rw[hf]at hfa;simp only at hfa;have hfit:EZ ls (Ba ls i) (at' ls i)=true:=by unfold EZ; rw[hf]
    have hsn:=vE (at' ls i).i (L6 (at' ls i).o i (-1,-1)) 0 (Ba ls i);have hE:Ee (Ba ls i) (at' ls i).i (at' ls i).o i=Ba ls i++[((at' ls i).i,L6 (at' ls i).o i (-1,-1))]:=by unfold Ee; rw[hf]
    rw[hE]at hes;have hEl:(Ba ls (i+1)).length=(Ba ls i).length+1:=by rw[hes]; simp
    rw[← hes]at hsn;rw[Nat.zero_add]at hsn;rw[hfit]at CB;have hok:DZ ls nv (i+1)=true:=by rw[CB]; simp; omega
    cases ho:(at' ls i).o with
    | true=>
     rw[ho]at hsn;simp only[L6,if_true,Et]at hsn;simp[hlen,hlt,hrow2,Ab,hk,hr1,hwq,hr2,hfa,ho,hw1];exact hN (i+1) [] _ _ (by omega) ⟨by omega,hok⟩ (by simp[Ak,hA,hB,hC,hD,Y0,hsn,hEl])
    | false=>
     rw[ho]at hsn;simp only[L6,bF,if_false,Et]at hsn;simp[hlen,hlt,hrow2,Ab,hk,hr1,hwq,hr2,hfa,ho,hw1];exact hN (i+1) [] _ _ (by omega) ⟨by omega,hok⟩ (by simp[Ak,hA,hB,hC,hD,Y0,hsn,hEl])
   | some pv=>
    obtain⟨p,v0,v1⟩:=pv;rw[hf]at hfa;simp only[Et,Nat.zero_add]at hfa;have hmem:=List.mem_of_getElem? (Rk hf);obtain⟨hv0,hv1,hv2⟩:=hvo _ hmem;simp only at hv0 hv1 hv2;have hfit:EZ ls (Ba ls i) (at' ls i)=(decide (T9 (at' ls i).o (v0,v1)<0)&&decide ((at' ls (T9 (!(at' ls i).o) (v0,v1)).toNat).s=(at' ls i).s)):=by unfold EZ; rw[hf]
    have hst:=sK (at' ls i).i (L6 (at' ls i).o i (v0,v1)) 0 p (Ba ls i);have hE:Ee (Ba ls i) (at' ls i).i (at' ls i).o i=(Ba ls i).set p ((at' ls i).i,L6 (at' ls i).o i (v0,v1)):=by unfold Ee; rw[hf]
    rw[hE]at hes;have hEl:(Ba ls (i+1)).length=(Ba ls i).length:=by rw[hes]; simp
    rw[← hes]at hst;rw[Nat.zero_add]at hst;rw[hfit]at CB;cases ho:(at' ls i).o with
    | true=>
     rw[ho]at CB hst;simp only[T9,L6,Bool.not_true,bF,if_true,if_false,Et]at CB hst;by_cases hs1:0≤v1
     ·simp[hlen,hlt,hrow2,Ab,hk,hr1,hwq,hr2,hfa,ho,hs1];exact hno (DO (by rw[CB]; simp; omega)) [] _ (by simp)
     obtain⟨j,hj⟩:∃ j:Nat,v0=(j:Nat):=⟨v0.toNat,by omega⟩
     subst hj;have hjl:j<ls.length:=by omega
     have hrowj:=hR.row j hjl;obtain⟨_,hrowj2⟩:=Y8 hrowj;have hw0:IntKind.i64.wrap 0=0:=by decide
     by_cases hss:(at' ls j).s=(at' ls i).s
     ·have hok:DZ ls nv (i+1)=true:=by rw[CB]; simp[hss]; omega
      simp[hlen,hlt,hrow2,Ab,hk,hr1,hwq,hr2,hfa,ho,hs1,hw0,hjl,hrowj2,hss,hw1];exact hN (i+1) [] _ _ (by omega) ⟨by omega,hok⟩ (by simp[Ak,hA,hB,hC,hD,Y0,hst,hEl])
     ·simp[hlen,hlt,hrow2,Ab,hk,hr1,hwq,hr2,hfa,ho,hs1,hw0,hjl,hrowj2,hss];exact hno (DO (by rw[CB]; simp[hss])) [] _ (by simp)
    | false=>
     rw[ho]at CB hst;simp only[T9,L6,Bool.not_false,bF,if_true,if_false,Et]at CB hst;by_cases hs1:0≤v0
     ·simp[hlen,hlt,hrow2,Ab,hk,hr1,hwq,hr2,hfa,ho,hs1];exact hno (DO (by rw[CB]; simp; omega)) [] _ (by simp)
     obtain⟨j,hj⟩:∃ j:Nat,v1=(j:Nat):=⟨v1.toNat,by omega⟩
     subst hj;have hjl:j<ls.length:=by omega
     have hrowj:=hR.row j hjl;obtain⟨_,hrowj2⟩:=Y8 hrowj;have hw0:IntKind.i64.wrap 1=1:=by decide
     by_cases hss:(at' ls j).s=(at' ls i).s
     ·have hok:DZ ls nv (i+1)=true:=by rw[CB]; simp[hss]; omega
      simp[hlen,hlt,hrow2,Ab,hk,hr1,hwq,hr2,hfa,ho,hs1,hw0,hjl,hrowj2,hss,hw1];exact hN (i+1) [] _ _ (by omega) ⟨by omega,hok⟩ (by simp[Ak,hA,hB,hC,hD,Y0,hst,hEl])
     ·simp[hlen,hlt,hrow2,Ab,hk,hr1,hwq,hr2,hfa,ho,hs1,hw0,hjl,hrowj2,hss];exact hno (DO (by rw[CB]; simp[hss])) [] _ (by simp)
  ·have hp:Bg (at' ls i)=false:=by simp[Bg,hk]
   have hes:Ba ls (i+1)=Ba ls i:=by simp[Ba,hp]
   simp[hlen,hlt,hrow2,Ab,hk,hw1];exact hN (i+1) [] _ _ (by omega) ⟨by omega,by simp[DZ,Cx,hp]⟩ (by simp[Ak,hA,hB,hC,hD,Y0,hes])
 have he:i=ls.length:=by omega
 subst he;have hwq:=Y7 ((nv:Int) / 2);by_cases hle:(Ba ls ls.length).length=nv / 2
 ·have hle2:(((Ba ls ls.length).length:Nat):Int)=(nv:Int) / 2:=by omega
  simp[SO,hwq,hle];exact hyes ⟨hpar,Cx,hle⟩ [] _ (by simp[Ak,hA,hB,hC,hD,Y0,hle])
 ·have hle':¬(((Ba ls ls.length).length:Nat):Int)=(nv:Int) / 2:=by omega
  simp[SO,hwq,hle'];exact hno (fun hh=>hle hh.2.2) [] _ (by simp)
end Go.Ac
end
section
namespace Go.Ac
open Go Go.AE Go.Proofs
open Go.Plain
attribute [local simp] Jx JO Js KB Jd JF KN Lg JA A6 B4 A2 B9 A0 B5 JU Ku KF Jq KV JY JI KQ Kg Ky JM JS Jh Ji KU KH JQ Kz Kv KM Kx JG KJ Jy JJ Jz Jp KW Jl Je Kf JB JT KG Ld Kq La JW KL Lb JK Ju Jf JN KS Ko Km Jt KR JL Kp Kb JP Lc Env.get Q9 Ad.at Ad.app Ad.get X2 N1 Aa.cells Aa.one J3 D6 Kt KI Ks Kj KD JX KE JZ JV KO Kh JC Kk Fo F0 M3 J5 I5 T4 Ag KY Jo Le Kw N3 U8 K3 M5 G4 E7 Q1 H2 Bs BW Bv Cm CK Ce GO Aa.AI Q5 Z3 Ai.AI K5 R0 M7 T3 T2 W2 FT.indep I9 GL D7 Ed IS Tk
abbrev dF(F:Nat)(ls:List Lt)(rows:List (List Aa))(E:List Db):Ad:=
 dM F ls.length (Z2 ls).length rows (Y3 (U5 F ls)) (Bf (W4 ls.length ls.length (U2 ls) false)) (Y3 (W4 ls.length ls.length (R6 ls) 0)) (Y3 (Z2 ls)) E
structure Di (ls:List Lt) (E:List Db):Prop where
 small:ls.length≤1000
 some:0<(Z2 ls).length
 kind:∀ v,v<ls.length→(at' ls v).k=1∨(at' ls v).k=2
 place:∀ v,v<ls.length→(at' ls v).k=1→R6 ls v=W7 v (Z2 ls)∧W7 v (Z2 ls)<(Z2 ls).length
 Us:∀ v,v<ls.length→(at' ls v).k=2 → ∃ p w,CM (at' ls v).i E=.some (p,w)∧T9 (!(at' ls v).o) w=(Q4 ls v ls.length 0:Nat)∧Q4 ls v ls.length 0<ls.length
theorem cG(F:Nat)(ls:List Lt)(E:List Db)(i:Nat)(h:ls.length≤1000)(hi:i<ls.length) :
 AV Tryz.prog 274 [.ptr 1 0 0,.int .i64 i] (dF F ls (ls.map Ab) E) fun r m=>r=.int .i64 (X6 ls.length i false:Nat)∧m=dF F ls (ls.map Ab) E:=by
 refine Lv hm Tryz.func274 oN rfl rfl fun K hK=>?_
 have hR:=E3 ls;have Ak:∀ q,Z3 q (ls.map Ab)=ls.map Ab:=fun q=>Y1 q _ (X5 ls)
 generalize ls.map Ab=rows at *;have hlen:=hR.len;have hn0:¬((ls.length:Int)=0):=by omega
 have hne:ls≠[]:=by intro e; subst e; simp at hi
 have hw1:=Y7 ((i:Int) - 1);have hw2:=M2 ((i:Int) - 1+ls.length) ((i+ls.length - 1:Nat):Int);have hmod:=Nat.mod_lt (i+ls.length - 1) (show 0<ls.length by omega)
 have hal:((X6 ls.length i false:Nat):Int)=2*(((i+ls.length - 1) % ls.length:Nat):Int)+1:=by simp only[X6,bF,if_false]; omega
 have hm2:((i+ls.length - 1:Nat):Int).tmod (ls.length:Int)=(((i+ls.length - 1) % ls.length:Nat):Int):=rfl;generalize (i+ls.length - 1) % ls.length=x at *;generalize i+ls.length - 1=y at *;have hw3:=Y7 (2*(x:Int));have hw4:=Y7 (2*(x:Int)+1);simp[hlen,hw1,hw2,hne,hm2,hw3,hw4];refine Z4 hK [] ?_;simp[Ak,Z7,X4,Y0,hal]
theorem cI(F:Nat)(ls:List Lt)(E:List Db)(i:Nat)(h:ls.length≤1000)(hi:i<ls.length) :
 AV Tryz.prog 275 [.ptr 1 0 0,.int .i64 i] (dF F ls (ls.map Ab) E) fun r m=>r=.int .i64 (X6 ls.length i true:Nat)∧m=dF F ls (ls.map Ab) E:=by
 refine Lv hm Tryz.func275 nJ rfl rfl fun K hK=>?_
 have Ak:∀ q,Z3 q (ls.map Ab)=ls.map Ab:=fun q=>Y1 q _ (X5 ls)
 generalize ls.map Ab=rows at *;have hal:((X6 ls.length i true:Nat):Int)=2*(i:Int):=by simp only[X6,if_true]; omega
 have hw3:=Y7 (2*(i:Int));simp[hw3];refine Z4 hK [] ?_;simp[Ak,Z7,X4,Y0,hal]
set_option maxRecDepth 100000 in
set_option maxHeartbeats 4000000 in
theorem Ub(F:Nat)(ls:List Lt)(E:List Db)(hg:Di ls E)(d:Nat)(hd:d<2*ls.length+2*(Z2 ls).length) :
 AV Tryz.prog 213 [.ptr 1 0 0,.int .i64 d] (dF F ls (ls.map Ab) E) fun r m=>r=.int .i64 (X7 ls (Z2 ls) d:Nat)∧m=dF F ls (ls.map Ab) E:=by
 refine Lv hm Tryz.func213 vG rfl rfl fun K hK=>?_
 have hR:=E3 ls;have h:=hg.small;have h136:=fun i hi=>cG F ls E i h hi
 have h137:=fun i hi=>cI F ls E i h hi
 unfold dF dM GR at *;have Ak:∀ q,Z3 q (ls.map Ab)=ls.map Ab:=fun q=>Y1 q _ (X5 ls)
 generalize ls.map Ab=rows at *;have hlen:=hR.len;have hm0:=hg.some;have hml:(Z2 ls).length≤ls.length:=by rw[O5]; exact B3
 have hAl:(Y3 (Z2 ls)).length=(Z2 ls).length:=C9 _;have hBl:(Bf (W4 ls.length ls.length (U2 ls) false)).length=ls.length:=by rw[Bf,lM,Hp]
 have hCl:(Y3 (W4 ls.length ls.length (R6 ls) 0)).length=ls.length:=by rw[C9,Hp]
 have hBg:∀ v,v<ls.length→(Bf (W4 ls.length ls.length (U2 ls) false))[v]? = some [Aa.bool (U2 ls v)]:=fun v hv=>by
  have:=JE (Ki (i:=ls.length) (v:=U2 ls) (d:=false) hv);rw[iP hv]at this; exact this
 have hCg:∀ v,v<ls.length→(Y3 (W4 ls.length ls.length (R6 ls) 0))[v]? = some [Aa.int .i64 (R6 ls v:Nat)]:=fun v hv=>by
  have:=Jm (Ki (i:=ls.length) (v:=R6 ls) (d:=0) hv);rw[iP hv]at this; exact this
 have hAg:∀ j,j<(Z2 ls).length→(Y3 (Z2 ls))[j]? = some [Aa.int .i64 ((Z2 ls).getD j 0:Nat)]:=fun j hj=>by
  apply Jm;rw[gE hj,List.getD,gE hj]; rfl
 have hAm:∀ j,j<(Z2 ls).length→(Z2 ls).getD j 0<ls.length∧Am (at' ls ((Z2 ls).getD j 0))=true:=fun j hj=>by
  have:(Z2 ls).getD j 0=(Z2 ls)[j]:=by rw[List.getD,gE hj]; rfl
  rw[this];exact AB.1 (List.getElem_mem hj)
 have hplace:=hg.place;have hcross:=hg.Us;have hkind:=hg.kind;have hn0:¬((ls.length:Int)=0):=by omega
 have hne:ls≠[]:=by intro e; rw[e]at hml hm0; have:([]:List Lt).length=0:=rfl; omega
 have hmz:¬(((Z2 ls).length:Nat):Int)=0:=by omega
 have hmz':Z2 ls≠[]:=by intro e; rw[e]at hm0; simp at hm0
 have hw2n:=Y7 (2*(ls.length:Int));have fin:∀ v m,v=X7 ls (Z2 ls) d→Bs 7 [] [(0,.int .i64 (v:Nat))] ⟨[(1,.cells 7 [[.int .i64 (F:Int),.Aj rows,.sl 3 0 ls.length,.sl 5 0 (Z2 ls).length,.sl 4 0 ls.length,.map 6,.sl 2 0 (F+1)]]),(2,.cells 1 (Y3 (U5 F ls))),(3,.cells 1 (Bf (W4 ls.length ls.length (U2 ls) false))),(4,.cells 1 (Y3 (W4 ls.length ls.length (R6 ls) 0))),(5,.cells 1 (Y3 (Z2 ls))),(6,.map (Eg 0 E) E.length)],7⟩ [(0,.int .i64 (v:Nat))] m→L8 7 K (.int .i64 (v:Nat)) m:=fun v m hv hs=>by
  subst hv; exact Z4 hK [] hs
 clear hK;unfold X7 at fin;generalize hBe:Bf (W4 ls.length ls.length (U2 ls) false)=B at *;generalize hCe:Y3 (W4 ls.length ls.length (R6 ls) 0)=C at *;generalize hAe:Y3 (Z2 ls)=A at *;have hrA:∀ q,Z3 q A=A:=fun q=>by rw[← hAe]; exact Z7 q _
 have hrB:∀ q,Z3 q B=B:=fun q=>by rw[← hBe]; exact X4 q _
 have hrC:∀ q,Z3 q C=C:=fun q=>by rw[← hCe]; exact Z7 q _
 generalize hme:(Z2 ls).length=m at *;have hm00:¬m=0:=by omega
 have htm:(d:Int).tmod 2=((d % 2:Nat):Int):=rfl;by_cases hd1:2*ls.length≤d
 ·rw[iP hd1]at fin;have hd1':2*(ls.length:Int)≤(d:Int):=by omega
  obtain⟨e,he⟩:∃ e,d - 2*ls.length=e:=⟨_,rfl⟩
  have hws:=M2 ((d:Int) - 2*(ls.length:Int)) (e:Int);obtain⟨j,hj⟩:∃ j,e / 2=j:=⟨_,rfl⟩
  have hwj:=M2 ((e:Int) / 2) (j:Int);rw[he,hj]at fin;have hjm:j<m:=by omega
  have hAj:=hAg j hjm;obtain⟨_,hAj2⟩:=Y8 hAj;by_cases hpar:d % 2=0
  ·rw[iP hpar]at fin;have hpar':=hpar;obtain⟨y,hy⟩:∃ y,(j+1) % m=y:=⟨_,rfl⟩
   have hym:y<m:=by rw[← hy]; exact Nat.mod_lt _ hm0
   have hwj1:=Y7 ((j:Int)+1);have hy2:((j:Int)+1) % (m:Int)=(y:Int):=by rw[← hy]; rfl
   have hy3:((j:Int)+1).tmod (m:Int)=(y:Int):=by rw[← hy]; rfl
   have hAy:=hAg y hym;obtain⟨_,hAy2⟩:=Y8 hAy;obtain⟨hvl,hvp⟩:=hAm y hym;rw[hy]at fin;generalize (Z2 ls).getD y 0=v at *;have hBv:=hBg v hvl;obtain⟨_,hBv2⟩:=Y8 hBv;have hdv:U2 ls v=Z8 ls v:=by simp[U2,hvp]
   rw[hdv]at hBv hBv2;cases hdn:Z8 ls v with
   | true=>
    rw[hdn]at fin hBv hBv2;simp[hlen,hw2n,hd1',hws,hwj,hjm,hAj2,hAl,htm,hpar',hm00,hwj1,hy3,hym,hAy2,hvl,hBv2,hBl];refine Z6 (h136 v hvl) [] (by simp) (by simp[Ak,hrA,hrB,hrC,Y0,Z7]) (by simp) ?_
    rintro r sm ⟨rfl,rfl⟩;simp[Ak,hrA,hrB,hrC,Y0,Z7];exact fin _ _ rfl (by simp[Ak,hrA,hrB,hrC,Y0,Z7])
   | false=>
    rw[hdn]at fin hBv hBv2;simp[hlen,hw2n,hd1',hws,hwj,hjm,hAj2,hAl,htm,hpar',hm00,hwj1,hy3,hym,hAy2,hvl,hBv2,hBl];refine Z6 (h137 v hvl) [] (by simp) (by simp[Ak,hrA,hrB,hrC,Y0,Z7]) (by simp) ?_
    rintro r sm ⟨rfl,rfl⟩;simp[Ak,hrA,hrB,hrC,Y0,Z7];exact fin _ _ rfl (by simp[Ak,hrA,hrB,hrC,Y0,Z7])
  ·rw[iN hpar]at fin;have hpar':d % 2=1:=by omega
   obtain⟨hvl,hvp⟩:=hAm j hjm;generalize (Z2 ls).getD j 0=v at *;have hBv:=hBg v hvl;obtain⟨_,hBv2⟩:=Y8 hBv;have hdv:U2 ls v=Z8 ls v:=by simp[U2,hvp]
   rw[hdv]at hBv hBv2;cases hdn:Z8 ls v with
   | true=>
    rw[hdn]at fin hBv hBv2;simp[hlen,hw2n,hd1',hws,hwj,hjm,hAj2,hAl,htm,hpar',hvl,hBv2,hBl];refine Z6 (h137 v hvl) [] (by simp) (by simp[Ak,hrA,hrB,hrC,Y0,Z7]) (by simp) ?_
    rintro r sm ⟨rfl,rfl⟩;simp[Ak,hrA,hrB,hrC,Y0,Z7];exact fin _ _ rfl (by simp[Ak,hrA,hrB,hrC,Y0,Z7])
   | false=>
    rw[hdn]at fin hBv hBv2;simp[hlen,hw2n,hd1',hws,hwj,hjm,hAj2,hAl,htm,hpar',hvl,hBv2,hBl];refine Z6 (h136 v hvl) [] (by simp) (by simp[Ak,hrA,hrB,hrC,Y0,Z7]) (by simp) ?_
    rintro r sm ⟨rfl,rfl⟩;simp[Ak,hrA,hrB,hrC,Y0,Z7];exact fin _ _ rfl (by simp[Ak,hrA,hrB,hrC,Y0,Z7])
 rw[iN hd1]at fin;have hd1':¬2*(ls.length:Int)≤(d:Int):=by omega
 obtain⟨g,hgd⟩:∃ g,d / 2=g:=⟨_,rfl⟩
 rw[hgd]at fin;have hwd:=M2 ((d:Int) / 2) (g:Int);have hwd1:=Y7 ((g:Int)+1);obtain⟨v,hv⟩:∃ v,(if d % 2=0 then (g+1) % ls.length else g)=v:=⟨_,rfl⟩
 have hvl:v<ls.length:=by
  rw[← hv];split
  ·exact Nat.mod_lt _ (by omega)
  ·omega
 rw[hv]at fin;simp only at fin;have hrow:=hR.row v hvl;obtain⟨_,hrow2⟩:=Y8 hrow;have hBv:=hBg v hvl;obtain⟨_,hBv2⟩:=Y8 hBv;have hCv:=hCg v hvl;obtain⟨_,hCv2⟩:=Y8 hCv;have hkv:=hkind v hvl;have hpl:=hplace v hvl;have Cx:=hcross v hvl;by_cases hpar:d % 2=0
 ·rw[iP hpar]at hv;have hpar':=hpar;have hb:(d % 2 == 0)=true:=by simp[hpar]
  have hmd:((g:Int)+1).tmod (ls.length:Int)=(v:Int):=by rw[← hv]; rfl
  rw[hb]at fin;by_cases hk:(at' ls v).k=2
  ·rw[iP hk]at fin;obtain⟨p,w,hf,hs,ho⟩:=Cx hk;have hfa:=Wr (at' ls v).i 0 E;rw[hf]at hfa;simp only[Et]at hfa;generalize Q4 ls v ls.length 0=x at *;cases hov:(at' ls v).o with
   | true=>
    rw[hov]at fin hs;simp only[T9,Bool.not_true,bF,if_false]at hs;by_cases hsg:(at' ls v).s=1
    ·have hsb:((at' ls v).s == 1)=true:=by simp[hsg]
     rw[hsb]at fin;simp[hlen,hw2n,hd1',hwd,htm,hpar',hwd1,hne,hmd,hvl,hrow2,Ab,hk,hfa,hov,hsg,hs];refine Z6 (h137 x ho) [] (by simp) (by simp[Ak,hrA,hrB,hrC,Y0,Z7]) (by simp) ?_
     rintro r sm ⟨rfl,rfl⟩;simp[Ak,hrA,hrB,hrC,Y0,Z7];exact fin _ _ rfl (by simp[Ak,hrA,hrB,hrC,Y0,Z7])
    ·have hsb:((at' ls v).s == 1)=false:=by simp[hsg]
     rw[hsb]at fin;simp[hlen,hw2n,hd1',hwd,htm,hpar',hwd1,hne,hmd,hvl,hrow2,Ab,hk,hfa,hov,hsg,hs];refine Z6 (h136 x ho) [] (by simp) (by simp[Ak,hrA,hrB,hrC,Y0,Z7]) (by simp) ?_
     rintro r sm ⟨rfl,rfl⟩;simp[Ak,hrA,hrB,hrC,Y0,Z7];exact fin _ _ rfl (by simp[Ak,hrA,hrB,hrC,Y0,Z7])
   | false=>
    rw[hov]at fin hs;simp only[T9,Bool.not_false,if_true]at hs;by_cases hsg:(at' ls v).s=1
    ·have hsb:((at' ls v).s == 1)=true:=by simp[hsg]
     rw[hsb]at fin;simp[hlen,hw2n,hd1',hwd,htm,hpar',hwd1,hne,hmd,hvl,hrow2,Ab,hk,hfa,hov,hsg,hs];refine Z6 (h136 x ho) [] (by simp) (by simp[Ak,hrA,hrB,hrC,Y0,Z7]) (by simp) ?_
     rintro r sm ⟨rfl,rfl⟩;simp[Ak,hrA,hrB,hrC,Y0,Z7];exact fin _ _ rfl (by simp[Ak,hrA,hrB,hrC,Y0,Z7])
    ·have hsb:((at' ls v).s == 1)=false:=by simp[hsg]
     rw[hsb]at fin;simp[hlen,hw2n,hd1',hwd,htm,hpar',hwd1,hne,hmd,hvl,hrow2,Ab,hk,hfa,hov,hsg,hs];refine Z6 (h137 x ho) [] (by simp) (by simp[Ak,hrA,hrB,hrC,Y0,Z7]) (by simp) ?_
     rintro r sm ⟨rfl,rfl⟩;simp[Ak,hrA,hrB,hrC,Y0,Z7];exact fin _ _ rfl (by simp[Ak,hrA,hrB,hrC,Y0,Z7])
  ·have hk1:(at' ls v).k=1:=hkv.resolve_right hk;have hp:Am (at' ls v)=true:=by simp[Am,hk1]
   rw[iN hk]at fin;obtain⟨hpv,hpm⟩:=hpl hk1;rw[hpv]at hCv hCv2;have hdv:U2 ls v=Z8 ls v:=by simp[U2,hp]
   rw[hdv]at hBv hBv2;generalize W7 v (Z2 ls)=x at *;have hwx:=Y7 (2*(x:Int));have hwx2:=M2 (2*(ls.length:Int)+2*(x:Int)) ((2*ls.length+2*x:Nat):Int);have hwy:=Y7 ((x:Int) - 1);have hwy2:=M2 ((x:Int) - 1+m) ((x+m - 1:Nat):Int);have hmy:((x+m - 1:Nat):Int).tmod (m:Int)=(((x+m - 1) % m:Nat):Int):=rfl;have hylt:=Nat.mod_lt (x+m - 1) hm0;generalize (x+m - 1) % m=y at *;generalize x+m - 1=y0 at *;have hwz:=Y7 (2*(y:Int));have hwz2:=Y7 (2*(ls.length:Int)+2*(y:Int));have hwz3:=M2 (2*(ls.length:Int)+2*(y:Int)+1) ((2*ls.length+2*y+1:Nat):Int);cases hdn:Z8 ls v with
   | true=>
    rw[hdn]at fin hBv hBv2;rw[iP rfl]at fin;simp[-Int.natCast_add,-Int.natCast_mul,hlen,hw2n,hd1',hwd,htm,hpar',hm00,hwd1,hn0,hne,hmd,hvl,hrow,hrow2,Ab,hBv,hBv2,hBl,hk1,hCl,hCv,hCv2,hwx,hwx2,hwy,hwy2,hmz,hmz',hmy,hwz,hwz2,hwz3];exact fin _ _ rfl (by simp[Ak,hrA,hrB,hrC,Y0,Z7])
   | false=>
    rw[hdn]at fin hBv hBv2;rw[iN (by simp)]at fin
    simp[-Int.natCast_add,-Int.natCast_mul,hlen,hw2n,hd1',hwd,htm,hpar',hm00,hwd1,hne,hmd,hvl,hrow2,Ab,hBv2,hBl,hk1,hCl,hCv2,hwy,hwy2,hmy,hwz,hwz2,hwz3];exact fin _ _ rfl (by simp[Ak,hrA,hrB,hrC,Y0,Z7])
 ·rw[iN hpar]at hv;have hpar':d % 2=1:=by omega
  have hb:(d % 2 == 0)=false:=by simp[hpar]
  rw[hv]at hwd;rw[hb]at fin;by_cases hk:(at' ls v).k=2
  ·rw[iP hk]at fin;obtain⟨p,w,hf,hs,ho⟩:=Cx hk;have hfa:=Wr (at' ls v).i 0 E;rw[hf]at hfa;simp only[Et]at hfa;generalize Q4 ls v ls.length 0=x at *;cases hov:(at' ls v).o with
   | true=>
    rw[hov]at fin hs;simp only[T9,Bool.not_true,bF,if_false]at hs;by_cases hsg:(at' ls v).s=1
    ·have hsb:((at' ls v).s == 1)=true:=by simp[hsg]
     rw[hsb]at fin;simp[hlen,hw2n,hd1',hwd,htm,hpar',hvl,hrow2,Ab,hk,hfa,hov,hsg,hs];refine Z6 (h136 x ho) [] (by simp) (by simp[Ak,hrA,hrB,hrC,Y0,Z7]) (by simp) ?_
     rintro r sm ⟨rfl,rfl⟩;simp[Ak,hrA,hrB,hrC,Y0,Z7];exact fin _ _ rfl (by simp[Ak,hrA,hrB,hrC,Y0,Z7])
    ·have hsb:((at' ls v).s == 1)=false:=by simp[hsg]
     rw[hsb]at fin;simp[hlen,hw2n,hd1',hwd,htm,hpar',hvl,hrow2,Ab,hk,hfa,hov,hsg,hs];refine Z6 (h137 x ho) [] (by simp) (by simp[Ak,hrA,hrB,hrC,Y0,Z7]) (by simp) ?_
     rintro r sm ⟨rfl,rfl⟩;simp[Ak,hrA,hrB,hrC,Y0,Z7];exact fin _ _ rfl (by simp[Ak,hrA,hrB,hrC,Y0,Z7])
   | false=>
    rw[hov]at fin hs;simp only[T9,Bool.not_false,if_true]at hs;by_cases hsg:(at' ls v).s=1
    ·have hsb:((at' ls v).s == 1)=true:=by simp[hsg]
     rw[hsb]at fin;simp[hlen,hw2n,hd1',hwd,htm,hpar',hvl,hrow2,Ab,hk,hfa,hov,hsg,hs];refine Z6 (h137 x ho) [] (by simp) (by simp[Ak,hrA,hrB,hrC,Y0,Z7]) (by simp) ?_
     rintro r sm ⟨rfl,rfl⟩;simp[Ak,hrA,hrB,hrC,Y0,Z7];exact fin _ _ rfl (by simp[Ak,hrA,hrB,hrC,Y0,Z7])
    ·have hsb:((at' ls v).s == 1)=false:=by simp[hsg]
     rw[hsb]at fin;simp[hlen,hw2n,hd1',hwd,htm,hpar',hvl,hrow2,Ab,hk,hfa,hov,hsg,hs];refine Z6 (h136 x ho) [] (by simp) (by simp[Ak,hrA,hrB,hrC,Y0,Z7]) (by simp) ?_
     rintro r sm ⟨rfl,rfl⟩;simp[Ak,hrA,hrB,hrC,Y0,Z7];exact fin _ _ rfl (by simp[Ak,hrA,hrB,hrC,Y0,Z7])
  ·have hk1:(at' ls v).k=1:=hkv.resolve_right hk;have hp:Am (at' ls v)=true:=by simp[Am,hk1]
   rw[iN hk]at fin;obtain⟨hpv,hpm⟩:=hpl hk1;rw[hpv]at hCv hCv2;have hdv:U2 ls v=Z8 ls v:=by simp[U2,hp]
   rw[hdv]at hBv hBv2;generalize W7 v (Z2 ls)=x at *;have hwx:=Y7 (2*(x:Int));have hwx2:=M2 (2*(ls.length:Int)+2*(x:Int)) ((2*ls.length+2*x:Nat):Int);have hwy:=Y7 ((x:Int) - 1);have hwy2:=M2 ((x:Int) - 1+m) ((x+m - 1:Nat):Int);have hmy:((x+m - 1:Nat):Int).tmod (m:Int)=(((x+m - 1) % m:Nat):Int):=rfl;have hylt:=Nat.mod_lt (x+m - 1) hm0;generalize (x+m - 1) % m=y at *;generalize x+m - 1=y0 at *;have hwz:=Y7 (2*(y:Int));have hwz2:=Y7 (2*(ls.length:Int)+2*(y:Int));have hwz3:=M2 (2*(ls.length:Int)+2*(y:Int)+1) ((2*ls.length+2*y+1:Nat):Int);cases hdn:Z8 ls v with
   | true=>
    rw[hdn]at fin hBv hBv2;rw[iN (by simp)]at fin
    simp[-Int.natCast_add,-Int.natCast_mul,hlen,hw2n,hd1',hwd,htm,hpar',hm00,hvl,hrow2,Ab,hBv2,hBl,hk1,hCl,hCv2,hwy,hwy2,hmy,hwz,hwz2,hwz3];exact fin _ _ rfl (by simp[Ak,hrA,hrB,hrC,Y0,Z7])
   | false=>
    rw[hdn]at fin hBv hBv2;rw[iP rfl]at fin;simp[-Int.natCast_add,-Int.natCast_mul,hlen,hw2n,hd1',hwd,htm,hpar',hm00,hvl,hrow,hrow2,Ab,hBv,hBv2,hBl,hk1,hCl,hCv,hCv2,hwx,hwx2,hwy,hwy2,hmz,hmz',hmy,hwz,hwz2,hwz3];exact fin _ _ rfl (by simp[Ak,hrA,hrB,hrC,Y0,Z7])
end Go.Ac
end
