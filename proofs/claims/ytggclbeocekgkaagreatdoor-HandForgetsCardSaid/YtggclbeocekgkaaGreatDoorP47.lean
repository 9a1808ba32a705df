/- Part 47 of the proof: Fmh, Fmi, Fmj, Fmk, Fml. -/
import Derived.Test.YtggclbeocekgkaaGreatDoorP31
import Derived.Test.YtggclbeocekgkaaGreatDoorP41
import Derived.Test.YtggclbeocekgkaaGreatDoorP42
import Derived.Test.YtggclbeocekgkaaGreatDoorP45
import Derived.Test.YtggclbeocekgkaaGreatDoorP46
set_option linter.all false
section
namespace Go.Ac
open Go Go.AE Go.Proofs
open Go.Plain
attribute [local simp] nU uG mP xJ mF wD nC zT mU vV XC Pp xD xV rJ
@[congr] theorem Ye0{P : Program}{g : FuncId}{args args' : List Aa}{k : Nat}{x : List Nat}{m : Ad}{K : List Nat → Aa → Ad → Prop}(h : wr args = args') : WC P g args k x m K = WC P g args' k x m K := by cases h; rfl
def gJ(n k:Nat)(sz:Option Nat):Aa→Option Nat→Option (Aa×List (Nat×Option Ai))
 | .agg cs,some i=>if i<n then match D3 cs (i*k) sz with
  | some v=>some (v,[])
  | none=>none
  else none
 | _,_=>none
theorem Z30(id:Nat)(f:Ah→Aa)(get:Nat→Option Ai)(n k:Nat)(sz:Option Nat)(x i:Ah):Y6 id f get (.CV n k sz x i)=gJ n k sz (f x) (P0 (f i)):=by
 simp only[Y6]; unfold gJ; rfl
theorem Z7t(n k i:Nat)(sz:Option Nat)(cs:List Aa):gJ n k sz (.agg cs) (some i)=if i<n then match D3 cs (i*k) sz with
 | some v=>some (v,[])
 | none=>none
 else none:=rfl
attribute [local simp] Z30 Z7t D3
set_option maxRecDepth 100000 in
theorem Z0w(k:Int)(n:Nat)(fv:Aa)(Bb:fv.one=true)(hfr:∀ q,fv.AI q=fv)(l p x m:Int)(ln mn:Nat) :
 AV Tryz.prog 102 [.ptr 1 0 0,.Ae] ⟨[(1,CH k n fv l p x m ln mn)],5⟩ fun r M=>r=.agg [.int .i64 k,.Ae]∧M=⟨[(1,CH k n fv l p x m ln mn)],5⟩:=by
 have hidx:Al Tryz.prog 164 [.Ae,.func (.func 165) [] []] (.int .i64 (-1)):=by
  refine R2 hm Tryz.func164 YT rfl rfl rfl trivial fun K hK=>?_
  simp;refine W5 (α:=Unit) (fun _=>[(8,.int .i64 0),(7,.int .i64 0),(1,.func (.func 165) [] []),(0,.Ae)]) (fun _=>⟨[],1⟩) (fun _=>0) (fun _=>True) () [] (by simp) trivial ?_
  intro _ _ N hN;simp;exact Z4 hK [] (by simp)
 refine W9 hm Tryz.func102 XU rfl rfl fun K hK=>?_
 have hKv:=hK _ _ ⟨rfl,rfl⟩;clear hK;unfold CH at *;simp[Bb];refine Y5 hidx ?_;simp;refine W5 (α:=Unit) (fun _=>[(18,.int .i64 0),(17,.int .i64 0),(6,.int .i64 0),(5,.ptr 6 0 0),(4,.ptr 5 0 0),(1,.Ae),(0,.ptr 1 0 0)])
  (fun _=>⟨[(6,.cells 2 [[.int .i64 k,.Ae]]),(5,.cells 2 [[.int .i64 0,.Ae]]),(1,.cells 7 [[.int .i64 k,.sl 2 0 n,fv,.sl 3 0 ln,.int .i64 p,.int .i64 x,.sl 4 0 mn]])],8⟩) (fun _=>0) (fun _=>True) () [(6,11)] (by simp[hfr]) trivial ?_
 intro _ _ N hN;simp;exact Z4 hKv [] (by simp[hfr])
set_option maxRecDepth 100000 in
set_option maxHeartbeats 16000000 in
theorem dJ(k:Int)(fv:Aa)(Bb:fv.one=true)(hfr:∀ q,fv.AI q=fv)(l p x m:Int)(ln mn:Nat)(a:Int)(L:List (Lt×Bool))(C:List Int)(hl:L.length≤400)(hx:0≤x∧x≤100)(hr:∀ q,q∈L→0≤q.1.r∧q.1.r≤1000)
 (hmn:C.length=mn) (hg:∀ q,q∈L→q.1.k=1→q.1.g<k→0≤q.1.g∧q.1.g.toNat<mn∧q.1.g≤1000) (Post:Aa→Ad→Prop)
 (hout:¬(0≤a∧a<L.length)→Post (.tuple [.agg [.int .i64 0,.Ae],.int .i64 2]) ⟨[],5⟩)
 (hno:∀ P,0≤a→L[a.toNat]? = some P → ¬(P.1.k=1∧P.1.g<k∧P.1.r=C.getD P.1.g.toNat 0)→Post (.tuple [.agg [.int .i64 0,.Ae],.int .i64 4]) ⟨[],5⟩)
 (hyes:∀ P,0≤a→L[a.toNat]? = some P→(P.1.k=1∧P.1.g<k∧P.1.r=C.getD P.1.g.toNat 0)→Post (.tuple [.agg [.int .i64 k,AQ 5 ((Q3 (L5 L a.toNat P)).map Ab)],.int .i64 0]) ⟨AM 5 6 ((Q3 (L5 L a.toNat P)).map Ab) [],6⟩) :
 AV Tryz.prog 64 [.ptr 1 0 0,.agg (Bc 9 a)] ⟨[(1,CH k L.length fv l p x m ln mn),(2,.cells 7 (Aw L)),(4,.cells 1 (Z1 C))],5⟩ Post:=by
 refine Xk hm [100] Tryz.func64 ZB rfl rfl fun K hK=>?_
 have hKo:=fun h=>hK _ _ (hout h)
 have hKn:=fun P h0 h1 h2=>hK _ _ (hno P h0 h1 h2)
 have hKy:=fun P h0 h1 h2=>hK _ _ (hyes P h0 h1 h2)
 clear hK hno hyes hout;have hargs:=wG 9 (.inr rfl) k L.length fv Bb hfr l p x m ln mn a;have hLc:∀ q,Z3 q (Aw L)=Aw L:=fun q=>Y1 q _ (J9 _)
 have hCc:∀ q,Z3 q (Z1 C)=Z1 C:=fun q=>Y1 q _ (W8 _)
 by_cases hin:0≤a∧a<L.length
 ·obtain⟨an,rfl⟩:∃ an:Nat,a=an:=⟨a.toNat,by omega⟩
  have hal:an<L.length:=by omega
  obtain⟨P,hP⟩:∃ P,L[an]? = some P:=⟨_,gE hal⟩
  have hPm:=List.mem_of_getElem? hP;have hKn:=hKn P (by omega) (by simpa using hP)
  have hKy:=hKy P (by omega) (by simpa using hP)
  have htip:=fun Post'=>dO k fv Bb hfr l p x m ln mn an L C (by omega) hal hr hmn P hP (hg P hPm) Post'
  have hgr:=Z83;rw[decide_eq_true hin.1,decide_eq_true hin.2]at hargs;by_cases hc:P.1.k=1∧P.1.g<k∧P.1.r=C.getD P.1.g.toNat 0
  ·have hKy:=hKy hc;have ht:=htip (fun r m'=>r=.tuple [.sl 5 0 L.length,.bool true]∧m'=⟨[(5,.cells 7 (Aw (L5 L an P))),(1,CH k L.length fv l p x m ln mn),(2,.cells 7 (Aw L)),(4,.cells 1 (Z1 C))],6⟩) (fun h=>absurd hc h) (fun _=>⟨rfl,rfl⟩)
   have hTl:(L5 L an P).length=L.length:=by simp[L5,Bi]
   have hfin:=pJ k L.length fv Bb hfr l p x m ln mn (L5 L an P) (by omega)
   rw[hTl]at hfin;have hTc:∀ q,Z3 q (Aw (L5 L an P))=Aw (L5 L an P):=fun q=>Y1 q _ (J9 _)
   have hRc:∀ q,Z3 q ((Q3 (L5 L an P)).map Ab)=(Q3 (L5 L an P)).map Ab:=fun q=>Y1 q _ (X5 _)
   rw[Int.toNat_natCast]at hKy;generalize (Q3 (L5 L an P)).map Ab=RW at *;generalize Aw (L5 L an P)=TP at *;have wl:IntKind.i64.wrap (L.length:Int)=L.length:=G8 (by omega) (by omega)
   have wx:=Y7 x;have hl4:¬(400:Int)<(L.length:Int):=by omega
   have hl5:¬400<L.length:=by omega
   have hx1:¬(100:Int)<x:=by omega
   unfold CH Bc at *;simp[Bb];refine Z6 hargs [] (by simp) (by simp[hfr]) (by simp) ?_
   rintro r sm ⟨rfl,rfl⟩;simp[hfr,Ll];refine D4 SJ (by simp) [] (by simp) (by simp) (by simp) (by simp[H5]) (by decide) (by simp) (by simp[By]) (by simp[By]) ?_
   simp[Oz,By,hLc,hCc,hfr];refine D4 ht (by simp) [] (by simp) (by simp[hLc,hCc,hfr]) (by simp) (by simp[H5]) (by decide) (by simp[By]) (by simp[By]) (by simp[By]) ?_
   simp[By,hLc,hCc,hfr,hTc];refine Y5 hgr ?_;simp[Bb,hfr,wl,wx,hl4,hl5,hx1];refine Z6 hfin [(5,24)] (by simp) (by simp[hTc,hfr]) (by simp) ?_
   rintro r sm ⟨rfl,rfl⟩;simp[hTc,hRc,hfr];exact Z4 hKy [(5,57)] (by simp +contextual [hRc])
  ·have hKn:=hKn hc;have ht:=htip (fun r m'=>r=.tuple [.Ae,.bool false]∧m'=⟨[(1,CH k L.length fv l p x m ln mn),(2,.cells 7 (Aw L)),(4,.cells 1 (Z1 C))],5⟩) (fun _=>⟨rfl,rfl⟩) (fun h=>absurd h hc)
   unfold CH Bc at *;simp[Bb];refine Z6 hargs [] (by simp) (by simp[hfr]) (by simp) ?_
   rintro r sm ⟨rfl,rfl⟩;simp[hfr,Ll];refine D4 SJ (by simp) [] (by simp) (by simp) (by simp) (by simp[H5]) (by decide) (by simp) (by simp[By]) (by simp[By]) ?_
   simp[Oz,By,hLc,hCc,hfr];refine D4 ht (by simp) [] (by simp) (by simp[hLc,hCc,hfr]) (by simp) (by simp[H5]) (by decide) (by simp[By]) (by simp[By]) (by simp[By]) ?_
   simp[By,hLc,hCc,hfr];exact Z4 hKn [] (by simp)
 ·have hKo:=hKo hin;have hb:(decide (0≤a)&&decide (a<(L.length:Int)))=false:=by
   by_cases h0:0≤a
   ·rw[decide_eq_true h0,decide_eq_false (fun e=>hin ⟨h0,e⟩)]; rfl
   ·rw[decide_eq_false h0]; rfl
  rw[hb]at hargs;unfold CH Bc at *;simp[Bb];refine Z6 hargs [] (by simp) (by simp[hfr]) (by simp) ?_
  rintro r sm ⟨rfl,rfl⟩;simp[hfr];exact Z4 hKo [] (by simp)
set_option maxRecDepth 100000 in
set_option maxHeartbeats 16000000 in
theorem dH(k:Int)(fv:Aa)(Bb:fv.one=true)(hfr:∀ q,fv.AI q=fv)(l p x m:Int)(ln mn:Nat)(a:Int)(L:List (Lt×Bool))(C:List Int)(hl:L.length≤400)(h2:2≤L.length)(hx:0≤x∧x≤100)(hr:∀ q,q∈L→0≤q.1.r∧q.1.r≤1000)
 (Post:Aa→Ad→Prop)
 (hout:¬(0≤a∧a<L.length)→Post (.tuple [.agg [.int .i64 0,.Ae],.int .i64 2]) ⟨[],5⟩)
 (hno:∀ (e:Nat) P Q,a=e→L[e]? = some P→L[(e+1) % L.length]? = some Q → ¬Nh P.1 Q.1 p x→Post (.tuple [.agg [.int .i64 0,.Ae],.int .i64 4]) ⟨[],5⟩)
 (hyes:∀ (e:Nat) P Q,a=e→L[e]? = some P→L[(e+1) % L.length]? = some Q→Nh P.1 Q.1 p x →
   Post (.tuple [.agg [.int .i64 k,AQ 5 ((Q3 (Bi P.1.g (V0 P.1 Q.1) (-2) (J0 L e ((e+1) % L.length) L.length))).map Ab)],.int .i64 0]) ⟨AM 5 6 ((Q3 (Bi P.1.g (V0 P.1 Q.1) (-2) (J0 L e ((e+1) % L.length) L.length))).map Ab) [],6⟩) :
 AV Tryz.prog 64 [.ptr 1 0 0,.agg (Bc 1 a)] ⟨[(1,CH k L.length fv l p x m ln mn),(2,.cells 7 (Aw L)),(4,.cells 1 (Z1 C))],5⟩ Post:=by
 refine Xk hm [100] Tryz.func64 ZB rfl rfl fun K hK=>?_
 have hKo:=fun h=>hK _ _ (hout h)
 have hKn:=fun e P Q h0 h1 h2 h3=>hK _ _ (hno e P Q h0 h1 h2 h3)
 have hKy:=fun e P Q h0 h1 h2 h3=>hK _ _ (hyes e P Q h0 h1 h2 h3)
 clear hK hno hyes hout;have hargs:=wG 1 (.inl rfl) k L.length fv Bb hfr l p x m ln mn a;have hLc:∀ q,Z3 q (Aw L)=Aw L:=fun q=>Y1 q _ (J9 _)
 have hCc:∀ q,Z3 q (Z1 C)=Z1 C:=fun q=>Y1 q _ (W8 _)
 by_cases hin:0≤a∧a<L.length
 ·obtain⟨an,rfl⟩:∃ an:Nat,a=an:=⟨a.toNat,by omega⟩
  have hal:an<L.length:=by omega
  obtain⟨P,hP⟩:∃ P,L[an]? = some P:=⟨_,gE hal⟩
  obtain⟨Q,hQ⟩:∃ Q,L[(an+1) % L.length]? = some Q:=⟨_,gE (Nat.mod_lt _ (by omega))⟩
  have hKn:=hKn an P Q rfl hP hQ;have hKy:=hKy an P Q rfl hP hQ;have htip:=fun Post'=>Zz5 k fv Bb hfr l p x m ln mn an L (by omega) hal h2 hr P Q hP hQ Post'
  have hgr:=Z7g;rw[decide_eq_true hin.1,decide_eq_true hin.2]at hargs;obtain⟨KP,hKP⟩:∃ KP,Bi P.1.g (V0 P.1 Q.1) (-2) (J0 L an ((an+1) % L.length) L.length)=KP:=⟨_,rfl⟩
  rw[hKP]at hKy htip;have hKPl:KP.length≤400:=by
   rw[← hKP];have:=XZ L an ((an+1) % L.length) L.length;simp[Bi];omega
  by_cases hc:Nh P.1 Q.1 p x
  ·have hKy:=hKy hc;have ht:=htip (fun r m'=>r=.tuple [AQ 5 (Aw KP),.bool true]∧m'=⟨AM 5 7 (Aw KP) [(1,CH k L.length fv l p x m ln mn),(2,.cells 7 (Aw L))],6⟩) (fun h=>absurd hc h) (fun _=>⟨rfl,rfl⟩)
   have hfin:=pJ k L.length fv Bb hfr l p x m ln mn KP (by omega)
   have hfin0:=Z0w k L.length fv Bb hfr l p x m ln mn;have hTc:∀ q,Z3 q (Aw KP)=Aw KP:=fun q=>Y1 q _ (J9 _)
   have hRc:∀ q,Z3 q ((Q3 KP).map Ab)=(Q3 KP).map Ab:=fun q=>Y1 q _ (X5 _)
   have wl:IntKind.i64.wrap (L.length:Int)=L.length:=G8 (by omega) (by omega)
   have wx:=Y7 x;have hl4:¬(400:Int)<(L.length:Int):=by omega
   have hl5:¬400<L.length:=by omega
   have hx1:¬(100:Int)<x:=by omega
   by_cases hke:KP=[]
   ·subst hke;have e1:Aw ([]:List (Lt×Bool))=[]:=rfl;have e2:(Q3 []).map Ab=[]:=rfl;rw[e2]at hKy;rw[e1]at ht;unfold CH Bc at *;simp[Bb];refine Z6 hargs [] (by simp) (by simp[hfr]) (by simp) ?_
    rintro r sm ⟨rfl,rfl⟩;simp[hfr,Ll];refine D4 SJ (by simp) [] (by simp) (by simp) (by simp) (by simp[H5]) (by decide) (by simp) (by simp[By]) (by simp[By]) ?_
    simp[Oz,By,hLc,hCc,hfr];refine D4 ht (by simp) [] (by simp) (by simp[hLc,hCc,hfr]) (by simp) (by simp[H5]) (by decide) (by simp[By]) (by simp[By]) (by simp[By]) ?_
    simp[By,hLc,hCc,hfr,hTc];refine Y5 hgr ?_;simp[Bb,hfr,wl,wx,hl4,hl5,hx1];refine Z6 hfin0 [] (by simp) (by simp[hfr]) (by simp) ?_
    rintro r sm ⟨rfl,rfl⟩;simp[hfr];exact Z4 hKy [] (by simp)
   ·have hpk:Aw KP≠[]:=fun e=>hke (by simpa[Aw]using e)
    have hpl:=B0 KP;have hw4:AQ 5 (Aw KP)=.sl 5 0 KP.length:=by unfold AQ; rw[iN hpk,hpl]
    have hw5:∀ c r,AM c 7 (Aw KP) r=(c,.cells 7 (Aw KP)) :: r:=fun c r=>by unfold AM; rw[iN hpk]
    rw[hw4,hw5]at ht;generalize (Q3 KP).map Ab=RW at *;generalize Aw KP=TP at *;unfold CH Bc at *;simp[Bb];refine Z6 hargs [] (by simp) (by simp[hfr]) (by simp) ?_
    rintro r sm ⟨rfl,rfl⟩;simp[hfr,Ll];refine D4 SJ (by simp) [] (by simp) (by simp) (by simp) (by simp[H5]) (by decide) (by simp) (by simp[By]) (by simp[By]) ?_
    simp[Oz,By,hLc,hCc,hfr];refine D4 ht (by simp) [] (by simp) (by simp[hLc,hCc,hfr]) (by simp) (by simp[H5]) (by decide) (by simp[By]) (by simp[By]) (by simp[By]) ?_
    simp[By,hLc,hCc,hfr,hTc];refine Y5 hgr ?_;simp[Bb,hfr,wl,wx,hl4,hl5,hx1];refine Z6 hfin [(5,24)] (by simp) (by simp[hTc,hfr]) (by simp) ?_
    rintro r sm ⟨rfl,rfl⟩;simp[hTc,hRc,hfr];exact Z4 hKy [(5,57)] (by simp +contextual [hRc])
  ·have hKn:=hKn hc;have ht:=htip (fun r m'=>r=.tuple [.Ae,.bool false]∧m'=⟨[(1,CH k L.length fv l p x m ln mn),(2,.cells 7 (Aw L))],5⟩) (fun _=>⟨rfl,rfl⟩) (fun h=>absurd h hc)
   unfold CH Bc at *;simp[Bb];refine Z6 hargs [] (by simp) (by simp[hfr]) (by simp) ?_
   rintro r sm ⟨rfl,rfl⟩;simp[hfr,Ll];refine D4 SJ (by simp) [] (by simp) (by simp) (by simp) (by simp[H5]) (by decide) (by simp) (by simp[By]) (by simp[By]) ?_
   simp[Oz,By,hLc,hCc,hfr];refine D4 ht (by simp) [] (by simp) (by simp[hLc,hCc,hfr]) (by simp) (by simp[H5]) (by decide) (by simp[By]) (by simp[By]) (by simp[By]) ?_
   simp[By,hLc,hCc,hfr];exact Z4 hKn [] (by simp)
 ·have hKo:=hKo hin;have hb:(decide (0≤a)&&decide (a<(L.length:Int)))=false:=by
   by_cases h0:0≤a
   ·rw[decide_eq_true h0,decide_eq_false (fun e=>hin ⟨h0,e⟩)]; rfl
   ·rw[decide_eq_false h0]; rfl
  rw[hb]at hargs;unfold CH Bc at *;simp[Bb];refine Z6 hargs [] (by simp) (by simp[hfr]) (by simp) ?_
  rintro r sm ⟨rfl,rfl⟩;simp[hfr];exact Z4 hKo [] (by simp)
end Go.Ac
end
section
namespace Go.Ac
open Go Go.AE Go.Proofs
open Go.Plain
set_option maxRecDepth 100000 in
theorem LG(f:Int)(ls:List Lt)(h:ls.length≤1000):Al Tryz.prog 13 [cV f ls] (.int .i64 (X0 ls / 2:Nat)):=by
 refine R2 hm Tryz.func13 wC rfl rfl (by simp[X8,SD]) trivial fun K hK=>?_
 have hc:=P7 f ls h;have hv:X0 ls=Z9 Bg ls:=rfl;rw[hv]at hK;have BT:Z9 Bg ls≤ls.length:=B3;generalize Z9 Bg ls=n at *;have hwy:=Y7 ((n / 2:Nat):Int);have hq:((n:Nat):Int).tdiv 2=((n / 2:Nat):Int):=rfl;generalize n / 2=y at *;unfold cV at *;generalize ls.map Ab=rows at *;simp;refine Y5 hc ?_;simp[hq,hwy];exact Z4 hK [] (by simp)
def DH(ls:List Lt)(i:Nat):List (Lt×Bool):=(List.range i).map fun j=>(at' ls j,Am (at' ls j)&&Z8 ls j)
theorem Kd(ls:List Lt)(i:Nat):(DH ls i).length=i:=by simp[DH]
theorem Z2t(ls:List Lt)(i:Nat):DH ls (i+1)=DH ls i++[(at' ls i,Am (at' ls i)&&Z8 ls i)]:=by
 unfold DH;rw[List.range_succ,List.map_append];rfl
theorem Hx{ls:List Lt}{n i:Nat}(h:i<n):(DH ls n)[i]? = some (at' ls i,Am (at' ls i)&&Z8 ls i):=by
 unfold DH;rw[gM,List.getElem?_range h];rfl
end Go.Ac
end
section
namespace Go.Ac
open Go Go.AE Go.Proofs
open Go.Plain
theorem uW(rows:List (List Aa)):(BQ rows).one=true:=by unfold BQ; split<;>rfl
set_option maxRecDepth 100000 in
set_option maxHeartbeats 16000000 in
theorem Z8g(f:Int)(ls:List Lt)(hl:ls.length≤400)(he:U0 f ls=0)(h0:ls≠[])(Post:Aa→Ad→Prop)
 (hP:∀ (fv:Aa) (lf:List Int),fv.one=true→(∀ q,fv.AI q=fv)→Post (.tuple [.ptr 1 0 0,.int .i64 0]) ⟨[(1,CH f ls.length fv 0 (Z0 ls:Nat) (X0 ls / 2:Nat) 0 (2*ls.length) (f.toNat+1)),(2,.cells 7 (Aw (DH ls ls.length))),(3,.cells 1 (Z1 lf)),(4,.cells 1 (Y3 (U5 f.toNat ls)))],5⟩) :
 AV Tryz.prog 62 [cV f ls] ⟨[],1⟩ Post:=by
 refine W9 hm Tryz.func62 nI rfl rfl fun K hK=>?_
 have hKp:=fun fv lf h1 h2=>hK _ _ (hP fv lf h1 h2)
 clear hK hP;have hv:=Z97 (by omega) he h0
 obtain⟨w1,w2⟩:=hv.fc;obtain⟨t1,t2⟩:=hv.T;have hF:=cZ f ls _ (c29 f ls (by omega) he h0 t1 t2 hv.axi hv.fill)
 have hPa:=P8 f ls (by omega)
 have hCr:=LG f ls (by omega)
 have hVR:=MG he h0;have hf0:=hVR.lo;have EK:=hVR.hi;obtain⟨F,rfl⟩:∃ F:Nat,f=(F:Int):=⟨f.toNat,by omega⟩
 rw[Int.toNat_natCast]at hKp;have hpas:Z0 ls=Z9 Am ls:=rfl;rw[← hpas]at hPa;generalize Z0 ls=np at *;generalize X0 ls / 2=nx at *;have hg:=fun i hi=>Lu ls (i:=i) hi
 have Ak:∀ q,Z3 q (ls.map Ab)=ls.map Ab:=fun q=>Y1 q _ (X5 ls)
 have hlen:(ls.map Ab).length=ls.length:=lM ..;unfold cV at *;generalize ls.map Ab=rows at *;simp;refine Z6 hF [] (by simp[Ak]) (by simp) (by simp) ?_
 rintro r sm ⟨rowsF,hRF,rfl,rfl⟩;have hRc:=hRF.closed;have hfr:∀ q,Z3 q rowsF=rowsF:=fun q=>Y1 q _ hRc
 have hw2:IntKind.i64.wrap (2*(ls.length:Int))=2*ls.length:=G8 (by omega) (by omega)
 have hwF:IntKind.i64.wrap ((F:Int)+1)=F+1:=G8 (by omega) (by omega)
 have e1:(2*(ls.length:Int)).toNat=2*ls.length:=by omega
 have e2:(0:Int)≤2*(ls.length:Int):=by omega
 have e3:2*ls.length≤1048576:=by omega
 have e4:((F:Int)+1).toNat=F+1:=by omega
 have e5:(0:Int)≤(F:Int)+1:=by omega
 have e6:F≤1048575:=by omega
 have e7:F+1≤1048576:=by omega
 simp[hfr,hlen,hw2,hwF,e1,e2,e3,e4,e5,e6,e7];refine Ow hPa ?_;simp[hfr,hlen,hw2,hwF,e1,e2,e3,e4,e5,e6,e7];refine Ow hCr ?_;simp[hfr,hlen,hw2,hwF,e1,e2,e3,e4,e5,e6,e7];obtain⟨W,hW⟩:∃ W:Nat→List (List Aa),∀ i,W i=Aw (DH ls i):=⟨fun i=>_,fun i=>rfl⟩
 obtain⟨Cn,hCn⟩:∃ Cn:Nat→List (List Aa),∀ i,Cn i=Y3 (U5 F (ls.take i)):=⟨fun i=>_,fun i=>rfl⟩
 have hW0:W 0=[]:=by rw[hW]; rfl
 have hWl:∀ i,(W i).length=i:=fun i=>by rw[hW,B0,Kd]
 have hWc:∀ i q,Z3 q (W i)=W i:=fun i q=>by rw[hW]; exact Y1 q _ (J9 _)
 have hWs:∀ i,W (i+1)=W i++[Da (at' ls i,Am (at' ls i)&&Z8 ls i)]:=fun i=>by rw[hW,hW,Z2t]; simp[Aw]
 have hC0:Cn 0=List.replicate (F+1) [.int .i64 0]:=by rw[hCn,List.take_zero,sN]; simp[Y3]
 have hCl:∀ i,(Cn i).length=F+1:=fun i=>by rw[hCn,C9,Jr]
 have hCc:∀ i q,Z3 q (Cn i)=Cn i:=fun i q=>by rw[hCn]; exact Z7 q _
 have htk:∀ i,i<ls.length→ls.take (i+1)=ls.take i++[at' ls i]:=fun i hi=>by
  rw[List.take_add_one,gE hi,at',List.getD,gE hi];rfl
 rw[← hC0];have hKp:=fun lf=>hKp (.Aj rowsF) lf rfl (fun q=>by simp[Aa.AI,hfr])
 rw[← hW,show ls=ls.take ls.length by rw[List.take_length]]at hKp
 rw[← hCn,List.take_length]at hKp;refine W5 (α:=Nat) (fun i=>[(44,.int .i64 i),(43,.int .i64 ls.length),(42,.Aj rows),(7,.bool (Z8 ls i)),(6,.ptr 2 0 0),(4,.Aj rowsF)])
  (fun i=>⟨(2,.cells 7 [[.int .i64 F,AQ 3 (W i),.Aj rowsF,.sl 4 0 (2*ls.length),.int .i64 np,.int .i64 nx,.sl 5 0 (F+1)]]) :: AM 3 7 (W i) [(4,.cells 1 (List.replicate (2*ls.length) [.int .i64 0])),(5,.cells 1 (Cn i))],6⟩)
  (fun i=>ls.length - i) (fun i=>i≤ls.length) 0 [(2,31),(4,21),(5,29)] (by
    have hz:∀ q,Z3 q (List.replicate (2*ls.length) [Aa.int .i64 0])=List.replicate (2*ls.length) [.int .i64 0]:=fun q=>by rw[H4]; simp
    simp[Ak,hfr,hW0,hCc,hz,Zs]) (by simp) ?_
 intro i hi N hN
 try simp only at hi hN ⊢
 by_cases hlt:i<ls.length
 ·have hgi:=hg i hlt;obtain⟨hgl,hg2⟩:=Y8 hgi;have hw:=Y7 ((i:Int)+1);have hN':=hN (i+1);rw[hWs i]at hN';have hWli:(W i).length≤1048575:=by rw[hWl]; omega
  have hWlj:(W i).length<1048576:=by rw[hWl]; omega
  have hds:=Tj (ls:=ls) (i:=i) hlt;have hWci:=hWc i;have hCci:=hCc i;have hz:∀ q,Z3 q (List.replicate (2*ls.length) [Aa.int .i64 0])=List.replicate (2*ls.length) [.int .i64 0]:=fun q=>by rw[H4]; simp
  by_cases hk:(at' ls i).k=1
  ·have hp:Am (at' ls i)=true:=by simp[Am,hk]
   rw[iP hp]at hds;rw[hds,hp,Bool.true_and]at hN';obtain⟨_,_,_,a4,a5,_⟩:=(A5 hk).1 (hVR.ET _ (O0 hlt));obtain⟨G,hG⟩:∃ G:Nat,(at' ls i).g=(G:Int):=⟨(at' ls i).g.toNat,by omega⟩
   have hGF:G≤F:=by omega
   have hCg:(Cn i)[G]? = some [.int .i64 (Ay (G:Nat) (ls.take i):Nat)]:=by
    rw[hCn];unfold Y3;rw[gM,Nb hGF];rfl
   obtain⟨hCgl,hCg2⟩:=Y8 hCg;have hin:Ay (G:Nat) (ls.take i)≤400:=by
    have h1:Ay (G:Nat) (ls.take i)≤(ls.take i).length:=B3;have h2:=List.length_take_le i ls;omega
   have hCs:Cn (i+1)=(Cn i).set G [.int .i64 ((Ay (G:Nat) (ls.take i):Nat)+1)]:=by
    rw[hCn,hCn,htk i hlt,← tJ hp hG hGF];unfold Y3;rw[List.map_set];rfl
   have hCsc:=hCc (i+1);rw[hCs]at hN' hCsc;generalize Ay (G:Nat) (ls.take i)=cg at *;have hwc:=Y7 ((cg:Int)+1);have hCli:=hCl i;have hGl:G<F+1:=by omega
   simp (config:={maxSteps:=400000}) [hlt,hlen,hgi,hg2,Ab,hk,hG,hfr,hCli,hGl,hCg,hCg2,hwc,hWli,hWlj,hw];exact hN' [(3,42)] _ _ (by omega) (by omega) (by simp +contextual [Ak,hfr,hWci,hCsc,hz,Da,hk,hG])
  ·have hp:Am (at' ls i)=false:=by simp[Am,hk]
   rw[iN (by rw[hp]; simp)]at hds
   rw[hds,hp,Bool.false_and]at hN';have hCs:Cn (i+1)=Cn i:=by rw[hCn,hCn,htk i hlt,oV hp]
   rw[hCs]at hN';simp (config:={maxSteps:=400000}) [hlt,hlen,hgi,hg2,Ab,hk,hfr,hWli,hWlj,hw];exact hN' [(3,25)] _ _ (by omega) (by omega) (by simp +contextual [Ak,hfr,hWci,hCci,hz,Da])
 ·obtain rfl:i=ls.length:=by omega
  clear hN hlt hi;have hWn:=hWc ls.length;have hCn':=hCc ls.length;have hz:List.replicate (2*ls.length) [Aa.int .i64 0]=Z1 (List.replicate (2*ls.length) 0):=by simp[Z1]
  have hWll:=hWl ls.length;have hCll:=hCl ls.length;obtain⟨hRlen,hRrow⟩:=hRF;generalize W ls.length=WW at *;generalize Cn ls.length=CC at *;have hWnil:¬WW=[]:=fun h=>by rw[h]at hWll; exact h0 (List.length_eq_zero_iff.1 hWll.symm)
  have hlr:rowsF.length≤4000:=by rw[hRlen]; exact w1
  have hIc:∀ (lf:List Int) q,Z3 q (Z1 lf)=Z1 lf:=fun lf q=>Y1 q _ (W8 lf)
  have hsWW:AQ 3 WW=.sl 3 0 WW.length:=N6 hWnil;rw[hsWW];unfold CH at hKp;simp only[hz,hWll]at *;simp[hlen,AM,hWnil];refine W5 (α:=Nat×List Int) (fun a=>[(80,.int .i64 a.1),(79,.int .i64 rowsF.length),(78,.Aj rowsF),(6,.ptr 2 0 0)])
   (fun a=>⟨[(2,.cells 7 [[.int .i64 F,.sl 3 0 ls.length,.Aj rowsF,.sl 4 0 (2*ls.length),.int .i64 np,.int .i64 nx,.sl 5 0 (F+1)]]),(3,.cells 7 WW),(4,.cells 1 (Z1 a.2)),(5,.cells 1 CC)],6⟩)
   (fun a=>rowsF.length - a.1) (fun a=>a.2.length=2*ls.length) (0,List.replicate (2*ls.length) 0) [] (by simp[hfr,hWn,hCn',hIc]) (by simp) ?_
  rintro⟨i,lf⟩ hlf N hN;simp only at hlf;by_cases hlt:i<rowsF.length
  ·have hlt':i<(B6 (X7 ls (Z2 ls)) (2*ls.length)).length:=by omega
   obtain⟨w,hw⟩:∃ w,(B6 (X7 ls (Z2 ls)) (2*ls.length))[i]? = some w:=⟨_,gE hlt'⟩
   obtain⟨row,hrow,ab,o,P,G,rfl,-⟩:=hRrow i w hw;obtain⟨v1,v2,v3⟩:=w2 w (List.mem_of_getElem? hw);obtain⟨hrl,hre⟩:=Y8 hrow;have hne:¬Y3 w.1=[]:=fun h=>v1 (by simpa[Y3]using h)
   have hNc:∀ q,Z3 q (Y3 w.1)=Y3 w.1:=fun q=>Z7 q _
   have hnl:(Y3 w.1).length=w.1.length:=C9 _;have hwi:=Y7 ((i:Int)+1);have himm:=Vk hne;rw[himm]at hrow hre;have ho1:=uW (V2 P);have ho2:=uW (Z1 G);simp[hlt,hrow,hre,ho1,ho2];refine W5 (α:=Nat×List Int) (fun a=>[(88,.int .i64 a.1),(87,.int .i64 w.1.length),(86,.Aj (Y3 w.1)),(11,.int .i64 i),(80,.int .i64 i),(79,.int .i64 rowsF.length),(78,.Aj rowsF),(6,.ptr 2 0 0)])
    (fun a=>⟨[(2,.cells 7 [[.int .i64 F,.sl 3 0 ls.length,.Aj rowsF,.sl 4 0 (2*ls.length),.int .i64 np,.int .i64 nx,.sl 5 0 (F+1)]]),(3,.cells 7 WW),(4,.cells 1 (Z1 a.2)),(5,.cells 1 CC)],7⟩)
    (fun a=>w.1.length - a.1) (fun a=>a.2.length=2*ls.length) (0,lf) [] (by simp[hfr,hWn,hCn',hIc,hNc,hnl]) hlf ?_
   rintro⟨j,lg⟩ hlg N' hN';simp only at hlg;by_cases hjl:j<w.1.length
   ·have hwj:=Y7 ((j:Int)+1);obtain⟨d,hd⟩:∃ d,w.1[j]? = some d:=⟨_,gE hjl⟩
    have hdl:=v3 d (List.mem_of_getElem? hd);have hnj:(Y3 w.1)[j]? = some [.int .i64 d]:=by unfold Y3; rw[gM,hd]; rfl
    obtain⟨hnjl,hnje⟩:=Y8 hnj;have hst:(Z1 lg).set d [.int .i64 i]=Z1 (lg.set d (i:Int)):=by simp[Z1]
    have hil:(Z1 lg).length=2*ls.length:=by simp[Z1,hlg]
    obtain⟨_,hde⟩:=gS.1 hd;have hg1:(Z1 lg)[d]? = some [.int .i64 (lg.getD d 0)]:=by simp[Z1,gE (show d<lg.length by omega)]
    obtain⟨_,hg3⟩:=Y8 hg1;simp[hjl,hd,hde,hnl,hwj,hdl,hg1,hg3,hst,hil];exact hN' (j+1,lg.set d (i:Int)) [] _ _ (by simp; omega) (by simpa using hlg) (by simp +contextual [hfr,hWn,hCn',hIc,hNc,hnl])
   ·simp[hjl,hwi];exact hN (i+1,lg) [] _ _ (by simp; omega) hlg (by simp +contextual [hfr,hWn,hCn',hIc,hNc,hnl])
  ·simp[hlt];exact Z4 (hKp lf) [(1,2),(2,3),(3,4),(4,5)] (by simp[hWn,hCn',hIc,hfr])
end Go.Ac
end
section
namespace Go.Ac
open Go Go.AE Go.Proofs
open Go.Plain
theorem Z5g{L:List (Lt×Bool)}(h:∃ p,L[0]? = some p∧Ew p=true):Q3 L=L.map Prod.fst:=by
 obtain⟨p,hp,hd⟩:=h;obtain⟨hl,he⟩:=gS.1 hp;have e:L.findIdx Ew=0:=(List.findIdx_eq hl).2 ⟨by rw[he]; exact hd,fun j hj=>by omega⟩
 unfold Q3 Fu;rw[e,iP hl];simp[V3]
theorem Zzx{ls:List Lt}{i:Nat}(h:i<ls.length):ls[i]? = some (at' ls i):=by
 rw[at',List.getD,gE h];rfl
theorem Z89{F:Int}{ls:List Lt}(h:Bq F ls)(h0:ls≠[]){a:Nat}(ha:a<ls.length){G:Int}(hk:(at' ls a).k=1)(hg:(at' ls a).g=G)(hr:(at' ls a).r=(Ay G ls:Nat)) :
 Q3 (L5 (DH ls ls.length) a (at' ls a,Am (at' ls a)&&Z8 ls a))=Q6 G ls:=by
 have hpos:0<ls.length:=List.length_pos_iff.2 h0;obtain⟨_,hap,_⟩:=Bq.Ep h.lo h.ET;have hget:∀ i,i<ls.length→(L5 (DH ls ls.length) a (at' ls a,Am (at' ls a)&&Z8 ls a))[i]? = some (V5 G (Ay G ls:Nat) (at' ls i),Am (at' ls i)&&Z8 ls i):=fun i hi=>by
  have hs:(Bi ((at' ls a).g+1) 0 1 (DH ls ls.length))[i]? = some (Ln ((at' ls a).g+1) 0 1 (at' ls i),Am (at' ls i)&&Z8 ls i):=by
   unfold Bi;rw[gM,Hx hi];rfl
  have hsl:(Bi ((at' ls a).g+1) 0 1 (DH ls ls.length)).length=ls.length:=by simp[Bi,Kd]
  unfold L5;by_cases e:i=a
  ·subst e;rw[List.getElem?_set_self (by rw[hsl]; exact hi)]
   unfold V5;rw[iP ⟨hk,hg,hr⟩];simp only[hg]
  ·rw[List.getElem?_set_ne (fun e'=>e e'.symm),hs]
   unfold Ln V5;rw[hg];by_cases hp:(at' ls i).k=1
   ·have hpi:=O7 hp;obtain⟨k1,k2,k3,k4,k5⟩:=h.key (O0 hi) hpi;have hne:¬((at' ls i).k=1∧(at' ls i).g=G∧(at' ls i).r=(Ay G ls:Nat)):=fun hc=>e (hap i a hi ha hpi (O7 hk) (by rw[hc.2.1,hg]) (by rw[hc.2.2,hr]))
    rw[iN hne];by_cases h2:(at' ls i).g=G+1
    ·rw[iP ⟨hp,h2,by omega⟩,iP ⟨hp,h2⟩]
    ·rw[iN fun hc=>h2 hc.2.1,iN fun hc=>h2 hc.2]
   ·rw[iN fun hc=>hp hc.1,iN fun hc=>hp hc.1,iN fun hc=>hp hc.1]
 have hlen:(L5 (DH ls ls.length) a (at' ls a,Am (at' ls a)&&Z8 ls a)).length=ls.length:=by simp[L5,Bi,Kd]
 rw[Z5g ⟨_,hget 0 hpos,by
  have hf:=h.fst;unfold Ew;simp[Fi,hf,O7 hf,Zs]⟩]
 unfold Q6;apply List.ext_getElem?;intro i;rw[gM,gM];by_cases hi:i<ls.length
 ·rw[hget i hi,Zzx hi];rfl
 ·rw[List.getElem?_eq_none (by omega),List.getElem?_eq_none (by omega)]
  rfl
theorem vF{z:List Lt}:∀ i,i≤z.length→2*((List.range i).filter fun v=>Am (at' z v)&&Z8 z v).length=((List.range i).filter fun v=>Am (at' z v)).length+if Z8 z i=true then 0 else 1
 | 0,_=>rfl
 | i+1,hi=>by
  have ih:=vF (z:=z) i (by omega)
  have hd:=ML (z:=z) i;rw[List.range_succ,List.filter_append,List.filter_append,lA,lA,Nat.mul_add,ih,hd];have hlt:i<z.length:=by omega
  cases hp:Am (at' z i)with
  | false=>simp[hp]
  | true=>
   cases hdd:Z8 z i with
   | false=>simp[hp,hdd,hlt]
   | true=>simp[hp,hdd,hlt,Nat.mul_add]
theorem Z7q(z:List Lt):((List.range z.length).filter fun v=>Am (at' z v)).length=Z0 z:=by
 have h1:=YE z;have h2:(U4 z).length=Z0 z:=by unfold U4 Z0 Z9; rw[lM]
 have h3:(Cw z (List.range z.length)).length=((List.range z.length).filter fun v=>Am (at' z v)).length:=by unfold Cw; rw[lM]
 rw[← h3,← h1,h2]
theorem Z51{F:Int}{z:List Lt}(h:Bq F z)(h4:3≤Z0 z){a b:Nat}(ha:a<z.length)(hb:b=(a+1) % z.length)(ka:Am (at' z a)=true):∃ v,v∈X1 z.length a b∧Am (at' z v)=true∧Z8 z v=true:=by
 have hev:=h.IN;have hc:=vF (z:=z) z.length (lR _);rw[Z7q]at hc;have Dd:b<z.length:=by rw[hb]; exact Nat.mod_lt _ (by omega)
 have hdc:=VC (z:=z) hev ha;rw[← hb,iP ka]at hdc;refine Classical.byContradiction fun hno=>?_
 have hall:∀ v,v∈(List.range z.length).filter (fun v=>Am (at' z v)&&Z8 z v)→v=a∨v=b:=fun v hv=>by
  obtain⟨h1,h2⟩:=List.mem_filter.1 hv;have h1:=mR.1 h1;rw[bA]at h2;refine Classical.byContradiction fun hn=>hno ⟨v,BG.2 ⟨h1,fun e=>hn (.inl e),fun e=>hn (.inr e)⟩,h2⟩
 have hone:((List.range z.length).filter (fun v=>Am (at' z v)&&Z8 z v)).length≤1:=by
  have Dy:((List.range z.length).filter (fun v=>Am (at' z v)&&Z8 z v)).Nodup:=List.nodup_range.filter _
  have hsame:∀ v,v∈(List.range z.length).filter (fun v=>Am (at' z v)&&Z8 z v)→v=if Z8 z a=true then a else b:=fun v hv=>by
   have hd:=(List.mem_filter.1 hv).2;rw[bA]at hd;rcases hall v hv with rfl|rfl
   ·rw[iP hd.2]
   ·have:=hd.2;rw[hdc]at this;rw[iN (by simpa using this)]
  generalize (List.range z.length).filter (fun v=>Am (at' z v)&&Z8 z v)=L at *
  match L,Dy,hsame with
  | [],_,_=>exact Nat.zero_le _
  | [_],_,_=>exact lR _
  | x :: y :: r,Dy,hsame=>
   have h1:=hsame x (by simp)
   have h2:=hsame y (by simp)
   rw[List.nodup_cons]at Dy;exact absurd (by rw[h1,← h2]; simp) Dy.1
 omega
def H0(ls:List Lt)(a b:Nat)(G R:Int):List (Lt×Bool):=Bi G R (-2) (J0 (DH ls ls.length) a b ls.length)
theorem SG(ls:List Lt)(a b:Nat)(G R:Int):H0 ls a b G R=(X1 ls.length a b).map fun v=>(CI G R (at' ls v),Am (at' ls v)&&Z8 ls v):=by
 unfold H0 Bi J0 X1;rw[List.map_map];refine List.map_congr_left fun v hv=>?_
 have hv:=mR.1 (List.mem_filter.1 hv).1;show(Ln G R (-2) ((DH ls ls.length).getD v default).1,((DH ls ls.length).getD v default).2)=_;rw[List.getD,Hx hv];show(Ln G R (-2) (at' ls v),_)=_;unfold Ln CI
 congr 1
theorem zm{F:Int}{z:List Lt}(h:Bq F z)(h3:3≤z.length)(h4:3≤Z0 z){a b:Nat}{G R:Int}(ha:a<z.length)(hb:b=(a+1) % z.length)(ka:(at' z a).k=1)(kb:(at' z b).k=1)(ga:(at' z a).g=G)(gb:(at' z b).g=G)
 (rk:((at' z a).r=R∧(at' z b).r=R - 1)∨((at' z a).r=R - 1∧(at' z b).r=R)) :
 ∃ s0,Q3 (H0 z a b G R)=N4 z a b s0 G R∧BN F z a b s0 G R ∧ ∀ k,k<s0 → ¬(Am (at' z ((X1 z.length a b).getD k 0))=true∧Z8 z ((X1 z.length a b).getD k 0)=true):=by
 obtain⟨v,v1,v2,v3⟩:=Z51 h h4 ha hb (O7 ka);have hkl:=(VU h3 ha hb).1;have hlen:(H0 z a b G R).length=z.length - 2:=by rw[SG,lM,hkl]
 have hdn:∀ v,Ew (CI G R (at' z v),Am (at' z v)&&Z8 z v)=(Am (at' z v)&&Z8 z v):=fun v=>by
  unfold Ew;rw[FE];cases hp:Am (at' z v)with
  | false=>simp
  | true=>simp[show (at' z v).k=1 by simpa[Am]using hp]
 have hex:(H0 z a b G R).findIdx Ew<(H0 z a b G R).length:=by
  refine List.findIdx_lt_length_of_exists ⟨(CI G R (at' z v),Am (at' z v)&&Z8 z v),?_,?_⟩
  ·rw[SG]; exact mM.2 ⟨v,v1,rfl⟩
  ·rw[hdn,v2,v3]; rfl
 obtain⟨s0,hs0⟩:∃ s0,(H0 z a b G R).findIdx Ew=s0:=⟨_,rfl⟩
 have hsl:s0<z.length - 2:=by rw[← hs0,← hlen]; exact hex
 obtain⟨hx,hy⟩:=(List.findIdx_eq (p:=Ew) (xs:=H0 z a b G R) (i:=s0) (by rw[hlen]; exact hsl)).1 hs0
 have hat:∀ k (hk:k<(H0 z a b G R).length),Ew ((H0 z a b G R)[k])=(Am (at' z ((X1 z.length a b).getD k 0))&&Z8 z ((X1 z.length a b).getD k 0)):=fun k hk=>by
  have e:(H0 z a b G R)[k]=(CI G R (at' z ((X1 z.length a b).getD k 0)),Am (at' z ((X1 z.length a b).getD k 0))&&Z8 z ((X1 z.length a b).getD k 0)):=by
   have hk':k<(X1 z.length a b).length:=by rw[hkl,← hlen]; exact hk
   simp only[SG,List.getElem_map,List.getD,gE hk',Option.getD_some]
  rw[e,hdn]
 rw[hat]at hx;rw[bA]at hx;have hr0:(V3 (X1 z.length a b) s0).getD 0 0=(X1 z.length a b).getD s0 0:=by
  rw[Wl (by rw[hkl]; exact hsl) (by rw[hkl]; omega),Nat.zero_add,Nat.mod_eq_of_lt (by rw[hkl]; exact hsl)]
 refine⟨s0,?_,⟨h,h3,ha,hb,ka,kb,ga,gb,rk,hsl,?_,?_⟩,fun k hk hc=>?_⟩
 ·have hf:Fu (H0 z a b G R)=s0:=by unfold Fu; rw[iP hex,hs0]
  unfold Q3 N4;rw[hf];unfold V3;rw[SG,← List.map_drop,← List.map_take,List.map_append,List.map_append,List.map_map,List.map_map];rfl
 ·rw[hr0];simpa[Am]using hx.1
 ·rw[hr0];exact hx.2
 ·have:=hy k hk;rw[hat,Bool.and_eq_false_iff]at this;rcases this with e|e
  ·rw[hc.1]at e; cases e
  ·rw[hc.2]at e; cases e
end Go.Ac
end
section
namespace Go.Ac
open Go Go.AE Go.Proofs
open Go.Plain
theorem Z5l(kd a:Int):X8 (Bc kd a)=true:=rfl
theorem z7(l:List Nat):Y3 l=Z1 (l.map fun x:Nat=>(x:Int)):=by simp[Y3,Z1]
set_option maxRecDepth 100000 in
set_option maxHeartbeats 8000000 in
theorem RQ(f:Int)(ls:List Lt)(hl:ls.length≤400)(he:U0 f ls=0)(h0:ls≠[])(kd a k' e:Int)(RW:List Lt)(nn:Nat)(GX:nn=5∧RW=[]∨nn=6)
 (IQ:∀ (fv:Aa),fv.one=true→(∀ q,fv.AI q=fv)→AV Tryz.prog 64 [.ptr 1 0 0,.agg (Bc kd a)] ⟨[(1,CH f ls.length fv 0 (Z0 ls:Nat) (X0 ls / 2:Nat) 0 (2*ls.length) (f.toNat+1)),(2,.cells 7 (Aw (DH ls ls.length))),(4,.cells 1 (Z1 ((U5 f.toNat ls).map fun x:Nat=>(x:Int))))],5⟩
   fun r m=>r=.tuple [.agg [.int .i64 k',AQ 5 (RW.map Ab)],.int .i64 e]∧m=⟨AM 5 6 (RW.map Ab) [],nn⟩) :
 Al Tryz.prog 31 [cV f ls,.agg (Bc kd a)] (.tuple [.agg [.int .i64 k',BQ (RW.map Ab)],.int .i64 e]):=by
 refine E5 hm 5 Tryz.func31 zQ rfl rfl (by simp[X8,Aa.closed,X5,Z5l]) (by simp[Aa.closed,X8,Ng (X5 _)]) fun K hK=>?_
 have hKv:=hK _ _ (Z93 k' RW (.int .i64 e) rfl);clear hK;have hop:=Z8g f ls hl he h0;have Ak:∀ q,Z3 q (ls.map Ab)=ls.map Ab:=fun q=>Y1 q _ (X5 ls)
 have hRc:∀ q,Z3 q (RW.map Ab)=RW.map Ab:=fun q=>Y1 q _ (X5 _)
 have hPc:∀ q,Z3 q (Aw (DH ls ls.length))=Aw (DH ls ls.length):=fun q=>Y1 q _ (J9 _)
 have hCc:∀ (l:List Int) q,Z3 q (Z1 l)=Z1 l:=fun l q=>Y1 q _ (W8 l)
 rw[z7]at hop;generalize (U5 f.toNat ls).map (fun x:Nat=>(x:Int))=CC at *
 generalize Aw (DH ls ls.length)=PP at *;generalize Z0 ls=np at *;generalize X0 ls / 2=nx at *;have hop':=hop (fun r m=>∃ fv lf,fv.one=true∧(∀ q,fv.AI q=fv)∧r=.tuple [.ptr 1 0 0,.int .i64 0]∧m=⟨[(1,CH f ls.length fv 0 np nx 0 (2*ls.length) (f.toNat+1)),(2,.cells 7 PP),(3,.cells 1 (Z1 lf)),(4,.cells 1 (Z1 CC))],5⟩) (fun fv lf h1 h2=>⟨fv,lf,h1,h2,rfl,rfl⟩)
 clear hop;have hnn':nn=5∧RW.map Ab=[]∨nn=6:=GX.imp (fun h=>⟨h.1,by rw[h.2]; rfl⟩) id
 clear GX;unfold cV at *;generalize ls.map Ab=rows at *;generalize ls.length=n at *;generalize RW.map Ab=WW at *;unfold Bc CH at *;simp;refine Z6 hop' [] (by simp[Ak]) (by simp) (by simp) ?_
 rintro r sm ⟨fv,lf,h1,h2,rfl,rfl⟩;have hd:=IQ fv h1 h2;simp[h1,h2,hPc,hCc];refine Z6 hd [(1,12),(2,13),(3,14),(4,15)] (by simp) (by simp +contextual [h1,h2,hPc,hCc]) (by simp) ?_
 rintro r sm ⟨rfl,rfl⟩;rcases hnn' with⟨rfl,rfl⟩|rfl
 ·simp;exact Z4 hKv [] (by simp)
 ·simp[hRc];exact Z4 hKv [(1,25)] (by simp +contextual [hRc])
theorem oQ{ls:List Lt}{n:Nat}{q:Lt×Bool}(h:q∈DH ls n)(hn:n≤ls.length):q.1∈ls:=by
 unfold DH at h;obtain⟨j,hj,rfl⟩:=mM.1 h;exact O0 (by have:=mR.1 hj; omega)
theorem tK{f:Int}{ls:List Lt}(h:Bq f ls):X0 ls / 2≤100:=by have:=h.vis; omega
theorem vJ{f:Int}{ls:List Lt}(h:Bq f ls):∀ q,q∈DH ls ls.length→0≤q.1.r∧q.1.r≤1000:=fun q hq=>by
 have hm:=oQ hq (lR _);have ho:=h.ET _ hm;rcases St ho with hk|hk
 ·obtain⟨k1,k2,k3,k4,k5⟩:=h.key hm (by simp[Am,hk])
  have h1:Ay q.1.g ls≤ls.length:=B3;have:=h.len;omega
 ·have:=((RZ hk).1 ho).2.1;omega
theorem Z5e{f:Int}{ls:List Lt}{g:Int}(h0:0≤g)(h1:g≤f):((U5 f.toNat ls).map fun x:Nat=>(x:Int)).getD g.toNat 0=(Ay g ls:Nat):=by
 rw[List.getD,gM,Nb (by omega)]
 show((Ay ((g.toNat:Nat):Int) ls:Nat):Int)=_;rw[show ((g.toNat:Nat):Int)=g by omega]
theorem Z09(f:Int)(ls:List Lt)(hl:ls.length≤400)(he:U0 f ls=0)(h0:ls≠[])(a:Int) :
 (∃ e:Int,e≠0∧Al Tryz.prog 31 [cV f ls,.agg (Bc 9 a)] (.tuple [.agg [.int .i64 0,.Ae],.int .i64 e])) ∨
 (∃ an:Nat,a=an∧an<ls.length∧(at' ls an).k=1∧(at' ls an).g<f∧Al Tryz.prog 31 [cV f ls,.agg (Bc 9 a)] (.tuple [cV f (Q6 (at' ls an).g ls),.int .i64 0])):=by
 have hV:=MG he h0;have hv2:=tK hV;have hlo:=hV.lo;have hhi:=hV.hi;have hCl:((U5 f.toNat ls).map fun x:Nat=>(x:Int)).length=f.toNat+1:=by rw[lM,Jr]
 have IQ:=fun (fv:Aa) (h1:fv.one=true) (h2:∀ q,fv.AI q=fv) Post=>dJ f fv h1 h2 0 (Z0 ls:Nat) (X0 ls / 2:Nat) 0 (2*ls.length) (f.toNat+1) a (DH ls ls.length) ((U5 f.toNat ls).map fun x:Nat=>(x:Int)) (by rw[Kd]; exact hl) (by omega) (vJ hV) hCl (fun q hq hk hg=>by
  obtain⟨k1,k2,k3,k4,k5⟩:=hV.key (oQ hq (lR _)) (by simp[Am,hk])
  omega) Post
 rw[Kd]at IQ;have got:∀ {i:Nat} {P},(DH ls ls.length)[i]? = some P→i<ls.length:=fun h=>by have:=(gS.1 h).1; rwa[Kd]at this
 by_cases hin:0≤a∧a<ls.length
 ·obtain⟨an,rfl⟩:∃ an:Nat,a=an:=⟨a.toNat,by omega⟩
  have hal:an<ls.length:=by omega
  by_cases hc:(at' ls an).k=1∧(at' ls an).g<f∧(at' ls an).r=((U5 f.toNat ls).map fun x:Nat=>(x:Int)).getD (at' ls an).g.toNat 0
  ·have hk:=hV.key (O0 hal) (O7 hc.1);have hr:(at' ls an).r=(Ay (at' ls an).g ls:Nat):=by rw[hc.2.2,Z5e hk.2.2.2.1 hk.2.2.2.2]
   have hft:=Z89 hV h0 hal hc.1 rfl hr;refine .inr ⟨an,rfl,hal,hc.1,hc.2.1,?_⟩;refine(RQ f ls hl he h0 9 an f 0 (Q6 (at' ls an).g ls) 6 (.inr rfl) fun fv h1 h2=>IQ fv h1 h2 _ (fun h=>absurd hin h) (fun P hp hP hn=>?_) (fun P hp hP hy=>?_)).wk (yH ⟨lX ⟨Wk.refl _,tV _,trivial⟩,Wk.refl _,trivial⟩)
   ·rw[Int.toNat_natCast,Hx hal]at hP;cases hP;exact absurd hc hn
   ·rw[Int.toNat_natCast,Hx hal]at hP;cases hP;rw[Int.toNat_natCast,hft];exact⟨rfl,rfl⟩
  ·refine .inl ⟨4,by decide,RQ f ls hl he h0 9 an 0 4 [] 5 (.inl ⟨rfl,rfl⟩) fun fv h1 h2=>IQ fv h1 h2 _ (fun h=>absurd hin h) (fun P hp hP hn=>⟨rfl,rfl⟩) (fun P hp hP hy=>?_)⟩
   rw[Int.toNat_natCast,Hx hal]at hP;cases hP;exact absurd hy hc
 ·exact .inl ⟨2,by decide,RQ f ls hl he h0 9 a 0 2 [] 5 (.inl ⟨rfl,rfl⟩) fun fv h1 h2=>IQ fv h1 h2 _ (fun h=>⟨rfl,rfl⟩) (fun P hp hP hn=>absurd ⟨hp,by have:=got hP; omega⟩ hin) (fun P hp hP hy=>absurd ⟨hp,by have:=got hP; omega⟩ hin)⟩
theorem Z4g(f:Int)(ls:List Lt)(hl:ls.length≤400)(he:U0 f ls=0)(h0:ls≠[])(a:Int) :
 (∃ e:Int,e≠0∧Al Tryz.prog 31 [cV f ls,.agg (Bc 1 a)] (.tuple [.agg [.int .i64 0,.Ae],.int .i64 e])) ∨
 (∃(an:Nat),a=an∧an<ls.length∧Nh (at' ls an) (at' ls ((an+1) % ls.length)) (Z0 ls:Nat) (X0 ls / 2:Nat) ∧
   Al Tryz.prog 31 [cV f ls,.agg (Bc 1 a)] (.tuple [cV f (Q3 (H0 ls an ((an+1) % ls.length) (at' ls an).g (V0 (at' ls an) (at' ls ((an+1) % ls.length))))),.int .i64 0])):=by
 have hV:=MG he h0;have hv2:=tK hV;have hpos:0<ls.length:=List.length_pos_iff.2 h0;have h2':2≤ls.length:=by
  have hw:=hV.wv h0;have:=VN hw;have hp:0<Z0 ls:=hw.He;have:=hV.IN;omega
 have IQ:=fun (fv:Aa) (h1:fv.one=true) (h2:∀ q,fv.AI q=fv) Post=>dH f fv h1 h2 0 (Z0 ls:Nat) (X0 ls / 2:Nat) 0 (2*ls.length) (f.toNat+1) a (DH ls ls.length) ((U5 f.toNat ls).map fun x:Nat=>(x:Int)) (by rw[Kd]; exact hl) (by rw[Kd]; exact h2') (by omega) (vJ hV) Post
 rw[Kd]at IQ;have got:∀ {i:Nat} {P},(DH ls ls.length)[i]? = some P→i<ls.length:=fun h=>by have:=(gS.1 h).1; rwa[Kd]at this
 by_cases hin:0≤a∧a<ls.length
 ·obtain⟨an,rfl⟩:∃ an:Nat,a=an:=⟨a.toNat,by omega⟩
  have hal:an<ls.length:=by omega
  have Dd:(an+1) % ls.length<ls.length:=Nat.mod_lt _ hpos;by_cases hc:Nh (at' ls an) (at' ls ((an+1) % ls.length)) (Z0 ls:Nat) (X0 ls / 2:Nat)
  ·refine .inr ⟨an,rfl,hal,hc,?_⟩;refine(RQ f ls hl he h0 1 an f 0 (Q3 (H0 ls an ((an+1) % ls.length) (at' ls an).g (V0 (at' ls an) (at' ls ((an+1) % ls.length))))) 6 (.inr rfl) fun fv h1 h2=>IQ fv h1 h2 _ (fun h=>absurd hin h) (fun e P Q hp hP hQ hn=>?_) (fun e P Q hp hP hQ hy=>?_)).wk (yH ⟨lX ⟨Wk.refl _,tV _,trivial⟩,Wk.refl _,trivial⟩)
   ·obtain rfl:an=e:=by omega
    rw[Hx hal]at hP;rw[Hx Dd]at hQ;cases hP;cases hQ;exact absurd hc hn
   ·obtain rfl:an=e:=by omega
    rw[Hx hal]at hP;rw[Hx Dd]at hQ;cases hP;cases hQ;exact⟨rfl,rfl⟩
  ·refine .inl ⟨4,by decide,RQ f ls hl he h0 1 an 0 4 [] 5 (.inl ⟨rfl,rfl⟩) fun fv h1 h2=>IQ fv h1 h2 _ (fun h=>absurd hin h) (fun e P Q hp hP hQ hn=>⟨rfl,rfl⟩) (fun e P Q hp hP hQ hy=>?_)⟩
   obtain rfl:an=e:=by omega
   rw[Hx hal]at hP;rw[Hx Dd]at hQ;cases hP;cases hQ;exact absurd hy hc
 ·exact .inl ⟨2,by decide,RQ f ls hl he h0 1 a 0 2 [] 5 (.inl ⟨rfl,rfl⟩) fun fv h1 h2=>IQ fv h1 h2 _ (fun h=>⟨rfl,rfl⟩) (fun e P Q hp hP hQ hn=>absurd ⟨by omega,by have:=got hP; omega⟩ hin) (fun e P Q hp hP hQ hy=>absurd ⟨by omega,by have:=got hP; omega⟩ hin)⟩
end Go.Ac
end
