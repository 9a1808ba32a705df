/- Part 21 of the proof: Rk, Rl, Rm, Rg. -/
import Derived.Test.YtilmpmlkndfbjaaGreatDoorK10
import Derived.Test.YtilmpmlkndfbjaaGreatDoorK19
import Derived.Test.YtilmpmlkndfbjaaGreatDoorK20
set_option linter.all false
section
namespace Go.Ab
open Go Go.AE Go.Proofs
open Go.Plain
end Go.Ab
end
section
namespace Go.Ab
open Go Go.AE Go.Proofs
open Go.Plain
def Vr(l:List (Int×Int)):List (List Aa):=l.map fun p=>[.int .i64 p.1,.int .i64 p.2]
def Z1(l:List Int):List (List Aa):=l.map fun x=>[.int .i64 x]
@[simp] theorem qB(l : List Int) : (Z1 l).length = l.length := by simp [Z1]
@[simp] theorem Ydx : Vr [] = [] := rfl
@[simp] theorem Ydz : Z1 [] = [] := rfl
@[simp] theorem Ydl{l : List Int} : Z1 l = [] ↔ l = [] := by simp [Z1]
theorem Zzr(l:List Int)(a:Int):Z1 l++[[.int .i64 a]]=Z1 (l++[a]):=by simp[Z1]
theorem N9:∀ (l:List Int),V3 (Z1 l)=true
 | []=>rfl
 | p :: r=>by
  have:=N9 r;simp only[Z1,List.map_cons,V3,W9,Aa.closed,Bool.and_true,Bool.true_and]at this ⊢;exact this
theorem w8{l:List Int}{i:Nat}{p:Int}(h:l[i]? = some p):(Z1 l)[i]? = some [.int .i64 p]:=by rw[Z1,gM,h]; rfl
theorem LO{rows:List (List Aa)}(h:V3 rows=true):(Bx rows).closed=true:=by unfold Bx; split<;>first|rfl|exact h
@[simp] theorem Ydb : Bx [] = .Ai := rfl
end Go.Ab
end
section
namespace Go.Ab
open Go Go.AE Go.Proofs
open Go.Plain
theorem ZY{get:Nat→Option Ag}{b k n:Nat}{rows:List (List Aa)}(hg:get b=if rows=[]then none else some (.cells k rows))(hs:∀ row,row∈rows → ∀ x,x∈row→W3 get (n+1) x=some x):W3 get (n+2) (AH b rows)=some (Bx rows):=by
 unfold AH Bx;by_cases h:rows=[]
 ·rw[iP h,iP h]; rfl
 ·rw[iN h,iN h];exact cO (by rw[hg,iN h]) hs
theorem Z73{get:Nat→Option Ag}{n:Nat}{rows:List (List Aa)}(hs:∀ row,row∈rows → ∀ x,x∈row→W3 get (n+1) x=some x):W3 get (n+2) (Bx rows)=some (Bx rows):=by
 unfold Bx;by_cases h:rows=[]
 ·rw[iP h]; rfl
 ·rw[iN h];exact yf hs
def XW(w:List Nat×Bool)(row:List Aa):Prop:=∃ (ab o:Bool) (P:List (Int×Int)) (G:List Int),row=[.bool ab,Bx (Z0 w.1),Bx (Vr P),Bx (Z1 G),.bool o]∧(w.2=true↔P≠[])
def kV(l:List (List Nat×Bool))(rows:List (List Aa)):Prop:=rows.length=l.length ∧ ∀(i:Nat) (w:List Nat×Bool),l[i]? = some w → ∃ row,rows[i]? = some row∧XW w row
theorem oL(T:Nat→Nat):∀ (k:Nat) (seen:List Bool) (x:Nat),(tr T k seen x).length≤k
 | 0,_,_=>lR _
 | k+1,seen,x=>by
  simp only[tr];split
  ·simp
  ·have:=oL T k (seen.set x true) (T x);simp; omega
end Go.Ab
end
section
namespace Go.Ab
open Go Go.AE Go.Proofs
open Go.Plain
attribute [local simp] KV KF Kv KM K8 KI K2 Ku KT HG HJ HC HK HL HF JC Ld Kb Jw JF Kk JM Kz KE KZ KY Kl KU K4 KD JO KP K6 Jv Kt Ks Kw JI KR K7 K1 Jx Kq Kd KB JU Ky JY JG JZ Kc Ko KX KN Km JX K3 Jy KW Kr Kg Kx JP JE Kf Jz Lf Iy JW Env.get P3 Ac.at Ac.app Ac.get Y2 P0 Aa.cells Aa.one J4 C0 Ke KQ K9 K5 JQ KL Jq JL KJ Ka Jt KH KC Ga F5 N6 H9 I8 U5 Aj La Ki JT JH O3 X3 J0 M0 I6 D4 Q6 I0 Bq BY BB Cz Df Bz W5 Aa.AA U3 Z3 Ag.AA L7 Q8 N8
def yB(f:Int)(ls:List Lt):Prop:=ls=[]∨Rr f.toNat ls
open Classical in
noncomputable def J9(f:Int)(ls:List Lt):Int:=
 if 400<ls.length∨200<U0 ls then 7 else if f<0∨40<f then 2 else if yB f ls then 0 else 3
set_option maxRecDepth 100000 in
set_option maxHeartbeats 4000000 in
theorem c59(f:Int)(ls:List Lt)(h:ls.length≤1000) :
 Cc Tryz.prog 71 [cV f ls] ⟨[],1⟩ fun r m=>(J9 f ls≠0∧r=.tuple [.nilPtr,.int .i64 (J9 f ls)]∧m=⟨[],1⟩) ∨
  (J9 f ls=0∧ls=[]∧0≤f∧f≤40∧r=.tuple [.ptr 1 0 0,.int .i64 0]∧m=NX f (ls.map Ad)) ∨
  (J9 f ls=0∧ls≠[]∧0≤f∧f≤40∧Rr f.toNat ls∧r=.tuple [.ptr 1 0 0,.int .i64 0]∧m=dF f.toNat ls (ls.map Ad) (Bc ls ls.length)):=by
 refine Ih hm Tryz.func71 UY rfl rfl fun K hK=>?_
 have hR:=IA ls;have As:∀ q,Z3 q (ls.map Ad)=ls.map Ad:=fun q=>X7 q _ (R7 ls)
 have h103:=UJ f ls h;have h104:=fun F hF=>dI F ls h hF
 have hE:∀ e:Int,J9 f ls=e→e≠0 → ∀ m,Bq 1 [] [(0,.tuple [.nilPtr,.int .i64 e])] ⟨[],1⟩ [(0,.tuple [.nilPtr,.int .i64 e])] m→M4 1 K (.tuple [.nilPtr,.int .i64 e]) m:=
  fun e he hne m hs=>by subst he; exact Z6 (hK _ _ (.inl ⟨hne,rfl,rfl⟩)) [] hs
 unfold cV at *;generalize ls.map Ad=rows at *;have hlen:=hR.len;have hv:Z7 Bv ls=U0 ls:=rfl;by_cases hl:400<ls.length
 ·have hl':(400:Int)<(ls.length:Int):=by omega
  simp[hlen,hl'];exact hE 7 (by unfold J9; rw[iP (.inl hl)]) (by omega) _ (by simp)
 have hl':¬(400:Int)<(ls.length:Int):=by omega
 simp[hlen,hl'];refine L3 h103 ?_;rw[hv];by_cases hx:200<U0 ls
 ·have hx':(200:Int)<(U0 ls:Int):=by omega
  simp[hx'];exact hE 7 (by unfold J9; rw[iP (.inr hx)]) (by omega) _ (by simp)
 have hx':¬(200:Int)<(U0 ls:Int):=by omega
 have h7:¬(400<ls.length∨200<U0 ls):=by omega
 by_cases hf1:f<0
 ·simp[hx',hf1];exact hE 2 (by unfold J9; rw[iN h7,iP (.inl hf1)]) (by omega) _ (by simp)
 by_cases hf2:40<f
 ·simp[hx',hf1,hf2];exact hE 2 (by unfold J9; rw[iN h7,iP (.inr hf2)]) (by omega) _ (by simp)
 have h2:¬(f<0∨40<f):=by omega
 obtain⟨F,hF⟩:∃ F:Nat,f=(F:Int):=⟨f.toNat,by omega⟩
 subst hF;simp[hx',hf1,hf2];refine V4 (h104 F (by omega)) [(1,23)] (by simp) (by simp[As,Y8,Y0,V7]) (by simp) ?_
 rintro r sm (⟨h0,rfl,rfl⟩|⟨h0,hok,rfl,rfl⟩|⟨h0,hok,rfl,rfl⟩)
 ·have he:J9 F ls=0:=by unfold J9; rw[iN h7,iN h2,iP (.inl h0)]
  simp[As,Y8,Y0,V7];exact Z6 (hK _ _ (.inr (.inl ⟨he,h0,by omega,by omega,rfl,rfl⟩))) [(1,23)] (by simp[As,Y8,Y0,V7])
 ·have he:J9 F ls=0:=by unfold J9; rw[iN h7,iN h2,iP (.inr hok)]
  simp[As,Y8,Y0,V7];exact Z6 (hK _ _ (.inr (.inr ⟨he,h0,by omega,by omega,hok,rfl,rfl⟩))) [(1,23),(2,28),(3,29),(4,30),(5,31),(6,32)] (by simp[As,Y8,Y0,V7])
 ·simp[As,Y8,Y0,V7];exact hE 3 (by unfold J9; rw[iN h7,iN h2,iN (fun hh=>hh.elim h0 hok)]) (by omega) _ (by simp)
theorem c30(f:Int)(ls:List Lt)(h:ls.length≤1000):AS Tryz.prog 51 [cV f ls] (.int .i64 (J9 f ls)):=by
 refine Lx hm Tryz.func51 US rfl rfl (by simp[W9,cG]) trivial fun K hK=>?_
 have h59:=c59 f ls h;have As:∀ q,Z3 q (ls.map Ad)=ls.map Ad:=fun q=>X7 q _ (R7 ls)
 unfold cV at *;generalize ls.map Ad=rows at *;simp;refine V4 h59 [] (by simp[As]) (by simp) (by simp) ?_
 rintro r sm (⟨he,rfl,rfl⟩|⟨he,h0,_,_,rfl,rfl⟩|⟨he,h0,_,_,hok,rfl,rfl⟩)
 ·simp;exact Z6 hK [] (by simp)
 ·simp;rw[he]at hK;exact Z6 hK [] (by simp)
 ·simp;rw[he]at hK;exact Z6 hK [] (by simp)
end Go.Ab
end
