/- Part 28 of the proof: Rk, Rg, Rh, Ri, AeRm, Ls. -/
import Derived.Test.YtggclbeocekgkaaGreatDoorP19
import Derived.Test.YtggclbeocekgkaaGreatDoorP20
import Derived.Test.YtggclbeocekgkaaGreatDoorP25
import Derived.Test.YtggclbeocekgkaaGreatDoorP26
import Derived.Test.YtggclbeocekgkaaGreatDoorP27
set_option linter.all false
section
namespace Go.Ac
open Go Go.AE Go.Proofs
open Go.Plain
end Go.Ac
end
section
namespace Go.Ac
open Go Go.AE Go.Proofs
open Go.Plain
attribute [local simp] Jx JO Js KB Jd JF KN Lg JA A6 B4 A2 B9 A0 B5 JU Ku KF Jq KV JY JI KQ Kg Ky JM JS Jh Ji KU KH JQ Kz Kv KM Kx JG KJ Jy JJ Jz Jp KW Jl Je Kf JB JT KG Ld Kq La JW KL Lb JK Ju Jf JN KS Ko Km Jt KR JL Kp Kb JP Lc Env.get Q9 Ad.at Ad.app Ad.get X2 N1 Aa.cells Aa.one J3 D6 Kt KI Ks Kj KD JX KE JZ JV KO Kh JC Kk Fo F0 M3 J5 I5 T4 Ag KY Jo Le Kw N3 U8 K3 M5 G4 E7 Q1 H2 Bs BW Bv Cm CK Ce GO Aa.AI Q5 Z3 Ai.AI K5 R0 M7
def sx(f:Int)(ls:List Lt):Prop:=ls=[]∨Og f.toNat ls
open Classical in
noncomputable def U0(f:Int)(ls:List Lt):Int:=
 if 400<ls.length∨200<X0 ls then 7 else if f<0∨40<f then 2 else if sx f ls then 0 else 3
set_option maxRecDepth 100000 in
set_option maxHeartbeats 4000000 in
theorem Xq(f:Int)(ls:List Lt)(h:ls.length≤1000) :
 AV Tryz.prog 53 [cV f ls] ⟨[],1⟩ fun r m=>(U0 f ls≠0∧r=.tuple [.nilPtr,.int .i64 (U0 f ls)]∧m=⟨[],1⟩) ∨
  (U0 f ls=0∧ls=[]∧0≤f∧f≤40∧r=.tuple [.ptr 1 0 0,.int .i64 0]∧m=NO f (ls.map Ab)) ∨
  (U0 f ls=0∧ls≠[]∧0≤f∧f≤40∧Og f.toNat ls∧r=.tuple [.ptr 1 0 0,.int .i64 0]∧m=dF f.toNat ls (ls.map Ab) (Ba ls ls.length)):=by
 refine W9 hm Tryz.func53 Uh rfl rfl fun K hK=>?_
 have hR:=E3 ls;have Ak:∀ q,Z3 q (ls.map Ab)=ls.map Ab:=fun q=>Y1 q _ (X5 ls)
 have h103:=P7 f ls h;have h104:=fun F hF=>bU F ls h hF
 have hE:∀ e:Int,U0 f ls=e→e≠0 → ∀ m,Bs 1 [] [(0,.tuple [.nilPtr,.int .i64 e])] ⟨[],1⟩ [(0,.tuple [.nilPtr,.int .i64 e])] m→L8 1 K (.tuple [.nilPtr,.int .i64 e]) m:=
  fun e he hne m hs=>by subst he; exact Z4 (hK _ _ (.inl ⟨hne,rfl,rfl⟩)) [] hs
 unfold cV at *;generalize ls.map Ab=rows at *;have hlen:=hR.len;have hv:Z9 Bg ls=X0 ls:=rfl;by_cases hl:400<ls.length
 ·have hl':(400:Int)<(ls.length:Int):=by omega
  simp[hlen,hl'];exact hE 7 (by unfold U0; rw[iP (.inl hl)]) (by omega) _ (by simp)
 have hl':¬(400:Int)<(ls.length:Int):=by omega
 simp[hlen,hl'];refine Y5 h103 ?_;rw[hv];by_cases hx:200<X0 ls
 ·have hx':(200:Int)<(X0 ls:Int):=by omega
  simp[hx'];exact hE 7 (by unfold U0; rw[iP (.inr hx)]) (by omega) _ (by simp)
 have hx':¬(200:Int)<(X0 ls:Int):=by omega
 have h7:¬(400<ls.length∨200<X0 ls):=by omega
 by_cases EK:f<0
 ·simp[hx',EK];exact hE 2 (by unfold U0; rw[iN h7,iP (.inl EK)]) (by omega) _ (by simp)
 by_cases Fv:40<f
 ·simp[hx',EK,Fv];exact hE 2 (by unfold U0; rw[iN h7,iP (.inr Fv)]) (by omega) _ (by simp)
 have h2:¬(f<0∨40<f):=by omega
 obtain⟨F,hF⟩:∃ F:Nat,f=(F:Int):=⟨f.toNat,by omega⟩
 subst hF;simp[hx',EK,Fv];refine Z6 (h104 F (by omega)) [(1,23)] (by simp) (by simp[Ak,Y0,Z7,X4]) (by simp) ?_
 rintro r sm (⟨h0,rfl,rfl⟩|⟨h0,hok,rfl,rfl⟩|⟨h0,hok,rfl,rfl⟩)
 ·have he:U0 F ls=0:=by unfold U0; rw[iN h7,iN h2,iP (.inl h0)]
  simp[Ak,Y0,Z7,X4];exact Z4 (hK _ _ (.inr (.inl ⟨he,h0,by omega,by omega,rfl,rfl⟩))) [(1,23)] (by simp[Ak,Y0,Z7,X4])
 ·have he:U0 F ls=0:=by unfold U0; rw[iN h7,iN h2,iP (.inr hok)]
  simp[Ak,Y0,Z7,X4];exact Z4 (hK _ _ (.inr (.inr ⟨he,h0,by omega,by omega,hok,rfl,rfl⟩))) [(1,23),(2,28),(3,29),(4,30),(5,31),(6,32)] (by simp[Ak,Y0,Z7,X4])
 ·simp[Ak,Y0,Z7,X4];exact hE 3 (by unfold U0; rw[iN h7,iN h2,iN (fun hh=>hh.elim h0 hok)]) (by omega) _ (by simp)
theorem c30(f:Int)(ls:List Lt)(h:ls.length≤1000):Al Tryz.prog 23 [cV f ls] (.int .i64 (U0 f ls)):=by
 refine R2 hm Tryz.func23 Ug rfl rfl (by simp[X8,SD]) trivial fun K hK=>?_
 have h59:=Xq f ls h;have Ak:∀ q,Z3 q (ls.map Ab)=ls.map Ab:=fun q=>Y1 q _ (X5 ls)
 unfold cV at *;generalize ls.map Ab=rows at *;simp;refine Z6 h59 [] (by simp[Ak]) (by simp) (by simp) ?_
 rintro r sm (⟨he,rfl,rfl⟩|⟨he,h0,_,_,rfl,rfl⟩|⟨he,h0,_,_,hok,rfl,rfl⟩)
 ·simp;exact Z4 hK [] (by simp)
 ·simp;rw[he]at hK;exact Z4 hK [] (by simp)
 ·simp;rw[he]at hK;exact Z4 hK [] (by simp)
end Go.Ac
end
section
namespace Go.Ac
open Go Go.AE Go.Proofs
open Go.Plain
attribute [local simp] Jx JO Js KB Jd JF KN Lg JA A6 B4 A2 B9 A0 B5 JU Ku KF Jq KV JY JI KQ Kg Ky JM JS Jh Ji KU KH JQ Kz Kv KM Kx JG KJ Jy JJ Jz Jp KW Jl Je Kf JB JT KG Ld Kq La JW KL Lb JK Ju Jf JN KS Ko Km Jt KR JL Kp Kb JP Lc Env.get Q9 Ad.at Ad.app Ad.get X2 N1 Aa.cells Aa.one J3 D6 Kt KI Ks Kj KD JX KE JZ JV KO Kh JC Kk Fo F0 M3 J5 I5 T4 Ag KY Jo Le Kw N3 U8 K3 M5 G4 E7 Q1 H2 Bs BW Bv Cm CK Ce GO Aa.AI Q5 Z3 Ai.AI T3 T2 W2 FT.indep I9 GL D7 Ed IS Tk
end Go.Ac
end
section
namespace Go.Ac
open Go Go.AE Go.Proofs
open Go.Plain
attribute [local simp] Jx JO Js KB Jd JF KN Lg JA A6 B4 A2 B9 A0 B5 JU Ku KF Jq KV JY JI KQ Kg Ky JM JS Jh Ji KU KH JQ Kz Kv KM Kx JG KJ Jy JJ Jz Jp KW Jl Je Kf JB JT KG Ld Kq La JW KL Lb JK Ju Jf JN KS Ko Km Jt KR JL Kp Kb JP Lc Env.get Q9 Ad.at Ad.app Ad.get X2 N1 Aa.cells Aa.one J3 D6 Kt KI Ks Kj KD JX KE JZ JV KO Kh JC Kk Fo F0 M3 J5 I5 T4 Ag KY Jo Le Kw N3 U8 K3 M5 G4 E7 Q1 H2 Bs BW Bv Cm CK Ce GO Aa.AI Q5 Z3 Ai.AI T3 T2 W2 FT.indep I9 GL D7 Ed IS Tk vL
end Go.Ac
end
section
namespace Go.AE
open Go.RowKit
section
variable {P:Program} {b N G n base:Nat}
def Trim(mt m:Ad):Prop:=m.next=mt.next ∧ ∀ b x,mt.get b=some x→m.get b=some x ∨ ∃ k els rest,x=.cells k els∧m.get b=some (.cells k (els++rest))
variable {K:Env→Ad→Prop} {Q:Exit→Env→Ad→Prop} {e:Env} {m:Ad}
variable {id:Nat} {f:Ah→Aa} {get:Nat→Option Ai}
end
end Go.AE
end
section
namespace Go.Ac
open Go Go.AE Go.Proofs
set_option maxRecDepth 100000
set_option maxHeartbeats 400000
set_option maxRecDepth 100000
def Ua:As:=by
 have h:=rQ Tryz.f7
 conv at h=>rhs; reduce
 dsimp at h
 exact oR h
theorem y3:AS Tryz.prog Tryz.f7=some Ua:=by kernel_rfl
def OZ:As:=by
 have h:=rQ Tryz.f27
 conv at h=>rhs; reduce
 dsimp at h
 exact oR h
theorem mQ:AS Tryz.prog Tryz.f27=some OZ:=by kernel_rfl
def IF:As:=by
 have h:=rQ Tryz.f28
 conv at h=>rhs; reduce
 dsimp at h
 exact oR h
theorem zL:AS Tryz.prog Tryz.f28=some IF:=by kernel_rfl
def IG:As:=by
 have h:=rQ Tryz.f29
 conv at h=>rhs; reduce
 dsimp at h
 exact oR h
theorem zC:AS Tryz.prog Tryz.f29=some IG:=by kernel_rfl
def Ma:As:=by
 have h:=rQ Tryz.f9
 conv at h=>rhs; reduce
 exact oR h
theorem vg:AS Tryz.prog Tryz.f9=some Ma:=by kernel_rfl
def FP:As:=by
 have h:=rQ Tryz.f59
 conv at h=>rhs; reduce
 dsimp at h
 exact oR h
theorem sH:AS Tryz.prog Tryz.f59=some FP:=by kernel_rfl
def IJ:As:=by
 have h:=rQ Tryz.f61
 conv at h=>rhs; reduce
 dsimp at h
 exact oR h
theorem aF:AS Tryz.prog Tryz.f61=some IJ:=by kernel_rfl
def LX:As:=by
 have h:=rQ Tryz.f91
 conv at h=>rhs; reduce
 dsimp at h
 exact oR h
theorem tI:AS Tryz.prog Tryz.f91=some LX:=by kernel_rfl
def IK:As:=by
 have h:=rQ Tryz.f92
 conv at h=>rhs; reduce
 dsimp at h
 exact oR h
theorem mW:AS Tryz.prog Tryz.f92=some IK:=by kernel_rfl
def LZ:As:=by
 have h:=rQ Tryz.f93
 conv at h=>rhs; reduce
 dsimp at h
 exact oR h
theorem Ydn:AS Tryz.prog Tryz.f93=some LZ:=by kernel_rfl
def Gs:As:=by
 have h:=rQ Tryz.f94
 conv at h=>rhs; reduce
 exact oR h
theorem xl:AS Tryz.prog Tryz.f94=some Gs:=by kernel_rfl
def Gq:As:=by
 have h:=rQ Tryz.f95
 conv at h=>rhs; reduce
 dsimp at h
 exact oR h
theorem Z5r:AS Tryz.prog Tryz.f95=some Gq:=by kernel_rfl
def Gr:As:=by
 have h:=rQ Tryz.f141
 conv at h=>rhs; reduce
 dsimp at h
 exact oR h
theorem Z7f:AS Tryz.prog Tryz.f141=some Gr:=by kernel_rfl
def P4:As:=by
 have h:=rQ Tryz.f142
 conv at h=>rhs; reduce
 dsimp at h
 exact oR h
theorem xY:AS Tryz.prog Tryz.f142=some P4:=by kernel_rfl
def TZ:As:=by
 have h:=rQ Tryz.f143
 conv at h=>rhs; reduce
 dsimp at h
 exact oR h
theorem Z6j:AS Tryz.prog Tryz.f143=some TZ:=by kernel_rfl
def II:As:=by
 have h:=rQ Tryz.f144
 conv at h=>rhs; reduce
 dsimp at h
 exact oR h
theorem Z1z:AS Tryz.prog Tryz.f144=some II:=by kernel_rfl
def P3:As:=by
 have h:=rQ Tryz.f146
 conv at h=>rhs; reduce
 dsimp at h
 exact oR h
theorem Z7c:AS Tryz.prog Tryz.f146=some P3:=by kernel_rfl
def Mb:As:=by
 have h:=rQ Tryz.f216
 conv at h=>rhs; reduce
 dsimp at h
 exact oR h
theorem ur:AS Tryz.prog Tryz.f216=some Mb:=by kernel_rfl
def LY:As:=by
 have h:=rQ Tryz.f217
 conv at h=>rhs; reduce
 exact oR h
theorem Z26:AS Tryz.prog Tryz.f217=some LY:=by kernel_rfl
def OY:As:=by
 have h:=rQ Tryz.f145
 conv at h=>rhs; reduce
 dsimp at h
 exact oR h
theorem Z6o:AS Tryz.prog Tryz.f145=some OY:=by kernel_rfl
def IE:As:=by
 have h:=rQ Tryz.f60
 conv at h=>rhs; reduce
 dsimp at h
 exact oR h
theorem sJ:AS Tryz.prog Tryz.f60=some IE:=by kernel_rfl
end Go.Ac
end
