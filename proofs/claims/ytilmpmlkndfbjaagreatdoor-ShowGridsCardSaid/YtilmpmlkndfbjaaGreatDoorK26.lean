/- Part 26 of the proof: Sj, Sl, So, Pz, Yb, We. -/
import Derived.Test.YtilmpmlkndfbjaaGreatDoorK10
import Derived.Test.YtilmpmlkndfbjaaGreatDoorK23
import Derived.Test.YtilmpmlkndfbjaaGreatDoorK25
set_option linter.all false
section
namespace Go.AE
open Go.RowKit
variable {P:Program}
def Wk(v v':Aa):Prop:=∀ (Φ:Ao) (ρ:AD) (u:Value),R Φ ρ v u→R Φ ρ v' u
end Go.AE
namespace Go.Ab
open Go Go.AE Go.Proofs
open Go.Plain
end Go.Ab
end
section
namespace Go.Ab
open Go Go.AE Go.Proofs
open Go.Plain
theorem Z7n(f:Int)(L:List Lt):W3 (Ac.get ⟨[(1,.cells 6 (L.map Ad))],2⟩) 4 (.agg [.int .i64 f,.sl 1 0 L.length])=some (cV f L):=by
 have:=cO (n:=2) (get:=Ac.get ⟨[(1,.cells 6 (L.map Ad))],2⟩) (b:=1) (k:=6) (rows:=L.map Ad) (by simp) (SM _)
 rw[lM]at this;rw[W3];simp only[T5];rw[this];rfl
theorem zT(f:Int)(ls:List Lt)(h0:ls≠[])(h:ls.length≤1000) :
 Cc Tryz.prog 58 [cV f ls] ⟨[],1⟩ fun v m=>v=.agg [.int .i64 f,.sl 1 0 ls.length]∧m=⟨[(1,.cells 6 (ls.map Ad))],2⟩:=by
 refine Ih hm Tryz.func58 sH rfl rfl fun K hK=>?_
 have hK':=hK _ _ ⟨rfl,rfl⟩;clear hK;have As:∀ q,Z3 q (ls.map Ad)=ls.map Ad:=fun q=>X7 q _ (R7 ls)
 have h6:=Z51 ls;have hne:¬ls.map Ad=[]:=by simpa using h0
 have hlen:(ls.map Ad).length=ls.length:=lM ..;unfold cV at *;generalize ls.map Ad=rows at *;have hb:ls.length≤1048576:=by omega
 simp[ZF,h6,hne,hlen,hb,Z8];exact Z6 hK' [(1,7)] (by simp[As])
end Go.Ab
end
section
namespace Go.Ab
open Go Go.AE Go.Proofs
open Go.Plain
theorem pM{x:Int}:∀ {met:List Int} {i:Nat},met[i]? = some x→(∀ k,k<i→met[k]? ≠ some x)→Y9 x met=i+1
 | [],i,h,_=>by simp at h
 | y :: r,0,h,_=>by
  have:x=y:=by simpa using h.symm
  simp[Y9,this]
 | y :: r,i+1,h,hn=>by
  have h0:x≠y:=fun e=>hn 0 (by omega) (by simp[e])
  have:=pM (met:=r) (i:=i) (by simpa using h) (fun k hk=>by have:=hn (k+1) (by omega); simpa using this)
  simp only[Y9,iN h0,this];rfl
theorem oT{x:Int}:∀ {met:List Int},(∀ k,k<met.length→met[k]? ≠ some x)→Y9 x met=0
 | [],_=>rfl
 | y :: r,hn=>by
  have h0:x≠y:=fun e=>hn 0 (by simp) (by simp[e])
  have:=oT (met:=r) (fun k hk=>by have:=hn (k+1) (by simp; omega); simpa using this)
  simp only[Y9,iN h0,this,if_true]
set_option maxHeartbeats 4000000 in
theorem dY(met:List Int)(x:Int)(h:met.length≤1000):Cc Tryz.prog 59 [AH 1 (Z1 met),.int .i64 x] ⟨AF 1 1 (Z1 met) [],2⟩ fun v m=>v=.int .i64 ((Y9 x met:Nat) - 1:Int)∧m=⟨AF 1 1 (Z1 met) [],2⟩:=by
 refine Ih hm Tryz.func59 eP rfl rfl fun K hK=>?_
 have hK':=hK _ _ ⟨rfl,rfl⟩;clear hK;have hml:(Z1 met).length=met.length:=qB met;have hmg:∀ (i:Nat) (y:Int),met[i]? = some y→(Z1 met)[i]? = some [.int .i64 y]:=fun i y=>w8
 have hmr:∀ q,Z3 q (Z1 met)=Z1 met:=fun q=>X7 q _ (N9 met)
 simp;refine C5 (α:=Nat) (fun i=>[(5,.int .i64 i),(1,.int .i64 x),(0,AH 1 (Z1 met))]) (fun _=>⟨AF 1 1 (Z1 met) [],2⟩) (fun i=>met.length - i) (fun i=>i≤met.length ∧ ∀ k,k<i→met[k]? ≠ some x) 0 [] (by simp +contextual [hmr]) (by simp) ?_
 rintro i ⟨hi,hI⟩ N hN
 try simp only at hi hI hN ⊢
 by_cases hlt:i<met.length
 ·obtain⟨y,hy⟩:∃ y,met[i]? = some y:=⟨_,gE hlt⟩
  have hg:=hmg i y hy;obtain⟨Dd,hg2⟩:=Y6 hg;have hw:=X5 ((i:Int)+1);have hne:¬Z1 met=[]:=by intro e; rw[e]at hml; simp at hml; omega
  by_cases hyx:y=x
  ·have hix:=pM (x:=x) (met:=met) (i:=i) (by rw[hy,hyx]) hI
   rw[hix]at hK';have hK2:K (.int .i64 (i:Int)) ⟨AF 1 1 (Z1 met) [],2⟩:=by
    have e:(((i+1:Nat):Int) - 1)=(i:Int):=by omega
    rw[e]at hK';exact hK'
   simp[hlt,hml,hg2,hyx,Y4,Z9,hne];exact Z6 hK2 [] (by simp +contextual [hmr,Z9,hne])
  ·have hN':=hN (i+1) [];simp[hlt,hml,hg2,hyx,hw,Y4,Z9,hne];exact hN' _ _ (by omega) ⟨by omega,fun k hk=>by
    rcases Nat.lt_succ_iff_lt_or_eq.1 hk with h1|h1
    ·exact hI k h1
    ·subst h1; rw[hy]; intro e; cases e; exact hyx rfl⟩ (by simp +contextual [hmr,Y4,Z9,hne])
 ·have hix:=oT (x:=x) (met:=met) (fun k hk=>hI k (by omega))
  rw[hix]at hK';have hK2:K (.int .i64 (-1)) ⟨AF 1 1 (Z1 met) [],2⟩:=hK';simp[hlt,hml];exact Z6 hK2 [] (by simp +contextual [hmr])
@[local simp] theorem Yeg{p : Prop} [Decidable p] {b k : Nat} (h : b ≠ k) : X3 b (if p then [] else [k]) = false := by
 split<;>simp[X3,h]
@[local simp] theorem Yd8{k w : Nat}{E : List (List Aa)} : (bif X3 k (if E = [] then [] else [k]) then [] else AF k w E []) = [] := by
 by_cases h:E=[]
 ·subst h; rfl
 ·simp[h,X3]
theorem Z7u{met:List Int}{l:Lt}(hk:l.k=2):Y9 l.i (P9 met l)≠0∧P9 met l≠[]:=by
 unfold P9;by_cases h:Y9 l.i met=0
 ·rw[iP ⟨hk,h⟩,SJ h];exact⟨by omega,by simp⟩
 ·rw[iN (fun e=>h e.2)]
  refine⟨h,fun e=>?_⟩
  rw[e]at h;exact h rfl
set_option maxRecDepth 100000 in
set_option maxHeartbeats 8000000 in
theorem dZ(f:Int)(ls:List Lt)(h0:ls≠[])(hl:ls.length≤1000):AS Tryz.prog 32 [cV f ls] (cV f (X8 ls)):=by
 refine vg hm 4 Tryz.func32 Vb rfl rfl (by simp[W9,Aa.closed,R7]) (by simp[Aa.closed,W9,R7]) fun K hK=>?_
 have hKv:=hK _ _ (Z7n f (X8 ls));clear hK;have hnl:=OE ls;rw[hnl]at hKv;have hlp:0<ls.length:=List.length_pos_iff.2 h0;have h114:=zT f ls h0 hl;have h70:=fun met x hm=>dY met x hm
 have hMg:=fun i hi=>mG hnl (i:=i) hi
 have hMs:=fun i hi=>vZ hnl (i:=i) hi
 have hMe:=fun i hi hg=>Z4e hnl (i:=i) hi hg
 have hMl:∀ i,((J8 (X8 ls) ls i).map Ad).length=ls.length:=fun i=>by rw[lM,zR hnl]
 have hMc:∀ i q,Z3 q ((J8 (X8 ls) ls i).map Ad)=(J8 (X8 ls) ls i).map Ad:=fun i q=>X7 q _ (R7 _)
 have hM0:(J8 (X8 ls) ls 0).map Ad=ls.map Ad:=by rw[Z57]
 have hMn:(J8 (X8 ls) ls ls.length).map Ad=(X8 ls).map Ad:=by rw[yU hnl]
 rw[← hMn]at hKv;have hlen:(ls.map Ad).length=ls.length:=lM ..;have hrg:=fun i hi=>Z6s ls (i:=i) hi
 have As:∀ q,Z3 q (ls.map Ad)=ls.map Ad:=fun q=>X7 q _ (R7 ls)
 obtain⟨M,hM⟩:∃ M:Nat→List (List Aa),(fun i=>(J8 (X8 ls) ls i).map Ad)=M:=⟨_,rfl⟩
 have hMi:∀ i,(J8 (X8 ls) ls i).map Ad=M i:=fun i=>by rw[← hM]
 simp only[hMi]at hMg hMs hMe hMl hMc hM0 hMn hKv;clear hM hMi;unfold cV at *;generalize ls.map Ad=rows at *;have hi0:Z1 (W8 ls 0)=[]:=rfl;simp;refine V4 h114 [] (by simp[As]) (by simp) (by simp) ?_
 rintro r sm ⟨rfl,rfl⟩;simp[As];refine C5 (α:=Nat) (fun i=>[(5,.int .i64 i),(4,AH 5 (Z1 (W8 ls i))),(3,.ptr 3 0 0),(2,.ptr 2 0 0),(1,.ptr 1 0 0)])
  (fun i=>⟨(3,.cells 2 [[.int .i64 f,.sl 4 0 ls.length]]) :: (4,.cells 6 (M i)) :: (2,.cells 2 [[.int .i64 0,.Ai]]) :: (1,.cells 2 [[.int .i64 f,.An rows]]) :: AF 5 1 (Z1 (W8 ls i)) [],6⟩)
  (fun i=>ls.length - i) (fun i=>i≤ls.length) 0 [(3,5),(4,7)] (by simp[As,hM0,hi0]) (by simp) ?_
 intro i hi N hN
 try simp only at hi hN ⊢
 by_cases hlt:i<ls.length
 ·have hg:=hMg i hlt;obtain⟨Dd,hg2⟩:=Y6 hg;have hr:=hrg i hlt;obtain⟨hrl,hr2⟩:=Y6 hr;have hset:=hMs i hlt;have hw:=X5 ((i:Int)+1);have hlM:=hMl i;have hms:=Rn hlt;have hgn:=VU hlt;have hml:=VH ls i;have hN':=hN (i+1);rw[hgn]at hset;have hmr:∀ q,Z3 q (Z1 (W8 ls i))=Z1 (W8 ls i):=fun q=>X7 q _ (N9 _)
  have hmr1:∀ q,Z3 q (Z1 (W8 ls (i+1)))=Z1 (W8 ls (i+1)):=fun q=>X7 q _ (N9 _)
  by_cases hk:(at' ls i).k=2
  ·have h70a:=h70 (W8 ls i) (at' ls i).i (by omega)
   obtain⟨hx1,hx2⟩:=Z7u (met:=W8 ls i) hk;rw[← hms]at hx1 hx2;have h70b:=h70 (W8 ls (i+1)) (at' ls i).i (by have:=VH ls (i+1); omega)
   have hre:Fx (W8 ls i) (at' ls i)={ at' ls i with i:=(Y9 (at' ls i).i (W8 ls (i+1)):Nat) }:=by unfold Fx; rw[iP hk,hms]
   rw[hre]at hset;have hwb:IntKind.i64.wrap ((Y9 (at' ls i).i (W8 ls (i+1)):Int) - 1+1)=(Y9 (at' ls i).i (W8 ls (i+1)):Int):=by
    have:=Vu (x:=(at' ls i).i) (met:=W8 ls (i+1));have:=VH ls (i+1);rw[S8 (by omega) (by omega)]
    omega
   have hwb2:IntKind.i64.wrap (Y9 (at' ls i).i (W8 ls (i+1)):Int)=(Y9 (at' ls i).i (W8 ls (i+1)):Int):=by
    have:=Vu (x:=(at' ls i).i) (met:=W8 ls (i+1));have:=VH ls (i+1);exact S8 (by omega) (by omega)
   have hne:¬Z1 (W8 ls (i+1))=[]:=by simpa[Z1]using hx2
   simp only[Ad,hk]at hset;rw[Y4 hne,Z9 hne]at h70b;by_cases hx:Y9 (at' ls i).i (W8 ls i)=0
   ·have EH:P9 (W8 ls i) (at' ls i)=W8 ls i++[(at' ls i).i]:=by unfold P9; rw[iP ⟨hk,hx⟩]
    rw[EH]at hms;have Ck:Z1 (W8 ls i)++[[.int .i64 (at' ls i).i]]=Z1 (W8 ls (i+1)):=by rw[hms,Zzr]
    rw[hx]at h70a;have hil:(Z1 (W8 ls i)).length≤1048575:=by rw[qB]; omega
    have hil1:(Z1 (W8 ls i)).length+1=(Z1 (W8 ls (i+1))).length:=by rw[← Ck]; simp
    generalize Y9 (at' ls i).i (W8 ls (i+1))=jx at *;generalize Z1 (W8 ls (i+1))=E1 at *;generalize Z1 (W8 ls i)=E0 at *;simp[hlt,hg2,hlM,Ad,hk];refine V4 h70a [(1,5)] (by simp) (by simp +contextual [hmr]) (by simp +contextual) ?_
    rintro r sm ⟨rfl,rfl⟩;simp[hlt,hg2,hlM,hr2,hlen,Ad,hk,hil,hmr,Ck];refine oA h70b (by simp) [(1,35)] (by simp[hil1]) (by simp[Hs,hmr1]) (by simp) (fun s=>by simp) (by simp) ?_
    simp[hlt,hg2,hlM,Ad,hk,hw,hwb2];exact hN' [(5,35)] _ _ (by omega) (by omega) (by simp +contextual [As,hMc,hset,hmr1,Y4,Z9,hne,hil1])
   ·have EH:P9 (W8 ls i) (at' ls i)=W8 ls i:=by unfold P9; rw[iN (fun e=>hx e.2)]
    rw[EH]at hms;have hxi:¬((Y9 (at' ls i).i (W8 ls i):Nat):Int) - 1<0:=by omega
    rw[hms]at h70b hwb hwb2 hset hN' hne;rw[Y4 hne,Z9 hne]at h70a;generalize Y9 (at' ls i).i (W8 ls i)=jx at *;rw[Y4 hne];generalize Z1 (W8 ls i)=E0 at *;simp[hlt,hg2,hlM,Ad,hk];refine V4 h70a [(1,5)] (by simp) (by simp[hmr,Z9,hne]) (by simp) ?_
    rintro r sm ⟨rfl,rfl⟩;simp[hlt,hr2,hlen,Ad,hk,hmr,hxi,Z9,hne];refine oA h70b (by simp) [(1,5)] (by simp) (by simp[Hs,hmr]) (by simp) (fun s=>by simp) (by simp) ?_
    simp[hlt,hg2,hlM,Ad,hk,hw,hwb2];exact hN' [] _ _ (by omega) (by omega) (by simp +contextual [As,hMc,hset,hmr,Y4,Z9,hne])
  ·have EH:P9 (W8 ls i) (at' ls i)=W8 ls i:=by unfold P9; rw[iN (fun e=>hk e.1)]
   have hre:Fx (W8 ls i) (at' ls i)=at' ls i:=by unfold Fx; rw[iN hk]
   rw[EH]at hms;have hsame:=hMe i hlt (by rw[hgn,hre])
   rw[hms,hsame]at hN';generalize Z1 (W8 ls i)=E0 at *;simp[hlt,hg2,hlM,Ad,hk,hw];exact hN' [] _ _ (by omega) (by omega) (by simp +contextual [As,hMc,hmr])
 ·have hie:i=ls.length:=by omega
  subst hie;simp[];exact Z6 hKv [(1,4)] (by simp[hMc])
end Go.Ab
end
section
namespace Go.Ab
open Go.Plain
section
variable {n:Int} {ls:List Lt}
end
end Go.Ab
end
section
namespace Go.Ab
open Go.Plain
theorem bT{n u:Nat}(hu:u<n)(fw:Bool):Dc (Q5 n u fw)=arr n u (!fw):=by
 unfold Dc Q5 arr
 grind
theorem mP(d:Nat):Dc (Dc d)=d:=by
 unfold Dc
 grind
theorem YW{n d:Nat}(h:d<2*n):Dc d<2*n:=by unfold Dc; split<;>omega
section
variable {ls:List Lt}
def Qs(ls:List Lt)(v:Nat):Bool:=((at' ls v).o == ((at' ls v).s == 1))
abbrev XQ(ls:List Lt)(v:Nat):Nat:=Q9 ls v ls.length 0
theorem Z4z{v:Nat}(hv:v<ls.length)(hk:(at' ls v).k=2)(b:Bool):xW ls (arr ls.length v b)=Q5 ls.length (XQ ls v) (b == Qs ls v):=by
 unfold xW;rw[Sv hv,iP hk];rfl
theorem Z4f{n v v':Nat}{b b':Bool}(hv:v<n)(Hf:v'<n)(h:arr n v b=arr n v' b'):v=v'∧b=b':=by
 obtain⟨_,h1,h2⟩:=OQ hv b;obtain⟨_,h3,h4⟩:=OQ Hf b'
 grind
theorem ML{l:List Nat}{i:Nat}(h:i<l.length):l.getD i 0∈l:=by
 grind
end
end Go.Ab
end
section
namespace Go.Ab
open Go.Plain
section
variable {g a:Int} {ls:List Lt}
end
end Go.Ab
end
