/- Part 40 of the proof: Sz, Kr2, Km3, Te, AeYd. -/
import Derived.Test.YtggclbeocekgkaaGreatDoorP15
import Derived.Test.YtggclbeocekgkaaGreatDoorP20
import Derived.Test.YtggclbeocekgkaaGreatDoorP28
import Derived.Test.YtggclbeocekgkaaGreatDoorP33
import Derived.Test.YtggclbeocekgkaaGreatDoorP36
import Derived.Test.YtggclbeocekgkaaGreatDoorP38
import Derived.Test.YtggclbeocekgkaaGreatDoorP39
set_option linter.all false
section
namespace Go.Ac
open Go Go.AE Go.Proofs
open Go.Plain
set_option maxRecDepth 100000 in
set_option maxHeartbeats 8000000 in
theorem c82(fs:List Fg)(re lo:Int)(h:fs.length≤1000):Al Tryz.prog 65 [Dx fs re lo] (.bool (Pe fs re lo)):=by
 refine R2 hm Tryz.func65 Ui rfl rfl (by simp[X8,Aa.closed,H9,Dx]) trivial fun K hK=>?_
 have Ak:∀ q,Z3 q (fs.map Ax)=fs.map Ax:=fun q=>Y1 q _ (H9 fs)
 have hlen:(fs.map Ax).length=fs.length:=lM ..;have hg:=fun i hi=>uC fs (i:=i) hi
 have h118:=bW;have h119:=fun i=>bX (Q8 fs i) (fs.take i) (by rw[lK]; omega)
 simp only[List.map_take]at h119;unfold Dx at *;have hT:∀ i,U3 ((fs.map Ax).take i)=true:=fun i=>by rw[← List.map_take]; exact H9 _
 have h3:(∀ x,x∈fs.map Ax→x.length=3)=True:=eq_true fun x hx=>by
  obtain⟨l,_,rfl⟩:=mM.1 hx;rfl
 generalize fs.map Ax=rows at *;have hno:¬Sh fs re lo → ∀ m,Bs 1 [] [(0,.bool false)] ⟨[],1⟩ [(0,.bool false)] m→L8 1 K (.bool false) m:=fun hn m hs=>by
  rw[zy hn]at hK;exact Z4 hK [] hs
 by_cases h1:40<fs.length
 ·have h1':(40:Int)<(fs.length:Int):=by omega
  simp[hlen,h1'];exact hno (fun hv=>by have:=hv.1; omega) _ (by simp)
 have h1':¬(40:Int)<(fs.length:Int):=by omega
 by_cases h2:re<0
 ·simp[hlen,h1',h2];exact hno (fun hv=>by have:=hv.2.1; omega) _ (by simp)
 by_cases h3':40<re
 ·simp[hlen,h1',h2,h3'];exact hno (fun hv=>by have:=hv.2.2.1; omega) _ (by simp)
 by_cases h4:lo<1
 ·simp[hlen,h1',h2,h3',h4];exact hno (fun hv=>by have:=hv.2.2.2.1; omega) _ (by simp)
 by_cases h5:20<lo
 ·simp[hlen,h1',h2,h3',h4,h5];exact hno (fun hv=>by have:=hv.2.2.2.2.1; omega) _ (by simp)
 simp[hlen,h1',h2,h3',h4,h5];refine W5 (α:=Nat) (fun i=>[(32,.int .i64 i),(31,.int .i64 fs.length),(30,.Aj rows),(1,.ptr 1 0 0)]) (fun _=>⟨[(1,.cells 3 [[.Aj rows,.int .i64 re,.int .i64 lo]])],2⟩) (fun i=>fs.length - i) (fun i=>i≤fs.length ∧ ∀ j,j<i→Hy (Q8 fs j)∧EY (Q8 fs j) fs=j) 0 [] (by simp[Ak]) (by simp) ?_
 rintro i ⟨hi,hI⟩ N hN
 try simp only at hi hN ⊢
 by_cases hlt:i<fs.length
 ·have hgi:=hg i hlt;obtain⟨hgl,hg2⟩:=Y8 hgi;have hw:=Y7 ((i:Int)+1);have h8:=h118 (Q8 fs i);have h9:=h119 i;unfold Ax at *;simp[hlt,hgi,hg2,hw];refine Ow h8 ?_;by_cases ht:Hy (Q8 fs i)
  ·have hle:i≤rows.length:=by omega
   have hft:=Z7u hlt;by_cases hf:EY (Q8 fs i) fs=i
   ·have hnf:¬EY (Q8 fs i) (fs.take i)<(fs.take i).length:=fun hh=>hft.1 hh hf
    rw[decide_eq_false hnf]at h9;simp[ht,h3,hle];refine Ow h9 ?_;simp[hw];refine hN (i+1) [] _ _ (by omega) ⟨by omega,fun j hj=>?_⟩ (by simp[Ak])
    by_cases hji:j=i
    ·subst hji; exact⟨ht,hf⟩
    ·exact hI j (by omega)
   ·have hnf:=hft.2 hf;rw[decide_eq_true hnf]at h9;simp[ht,h3,hle];refine Ow h9 ?_;simp[];exact hno (fun hv=>hf (hv.2.2.2.2.2 i hlt).2) _ (by simp)
  ·simp[ht];exact hno (fun hv=>ht (hv.2.2.2.2.2 i hlt).1) _ (by simp)
 ·have hie:i=fs.length:=by omega
  subst hie;have hv:Sh fs re lo:=⟨by omega,by omega,by omega,by omega,by omega,hI⟩
  rw[Z6f hv]at hK;simp[];exact Z4 hK [] (by simp)
end Go.Ac
end
section
namespace Go.Ac
open Go Go.AE Go.Proofs
theorem kM:Mu.Ok Tryz.prog:=
 wz hm xW (qL hm aI xW 100) (e:=Mu) (af:=EV) Tryz.func69 Un (by kernel_rfl) (by kernel_rfl)
  (r1:=NW (rm Tryz.f69)) (r2:=NW (ru Tryz.f69)) (r3:=NW (ry Tryz.f69)) (r5:=NW (Ga (Se Tryz.f69))) (r6:=NW (Ga (Ga (Se Tryz.f69)))) (rM:=NW (Ga (Ga (Ga (Ga (Se Tryz.f69)))))) (rT:=Ga (Ga (Ga (Ga (Ga (Se Tryz.f69)))))) (id:=lD Tryz.f69) (ops:=UY Tryz.f69) (lb:=0) (by kernel_rfl) (x:=4) (y:=8) (by decide) .data yh
  (a1:=qt) (a2:=qu) (a3:=qv) (a5:=qw) (a6:=qx) (aM:=qy) (aT:=qz) (oA:=ri Tryz.prog Tryz.f69) (oB:=r7 Tryz.prog Tryz.f69) (by kernel_rfl) (by kernel_rfl) (by kernel_rfl) (by kernel_rfl) (by kernel_rfl) (by kernel_rfl) (by kernel_rfl)
  (by kernel_rfl) (by kernel_rfl) (by kernel_rfl) (by kernel_rfl) (by kernel_rfl) (by kernel_rfl) (by kernel_rfl) (by kernel_rfl) (by kernel_rfl) (by kernel_rfl) (by kernel_rfl) (by kernel_rfl) 4 8 (by decide)
  (fun i hi=>match i,hi with
    | 0,_=>lE|1,_=>lF|2,_=>lH|3,_=>lI|4,_=>lJ|5,_=>lN|6,_=>lP|7,_=>lQ
    | k+8,h=>absurd h (by omega))
end Go.Ac
end
section
namespace Go.Ac
open Go Go.AE Go.Proofs
def PF:Aq:=⟨12,[GZ,ER,(.agg [(.int .i64 3),(.int .i64 3),(.int .i64 5),(.int .i64 0),(.bool false),(.int .i64 0),.Ae,(.bool false)])],(.tuple [gN,(.Aj [[(.int .i64 2),(.int .i64 1),(.int .i64 3),(.int .i64 0),(.bool false),(.bool false),(.int .i64 0)],[(.int .i64 10),(.int .i64 2),(.int .i64 0),(.int .i64 0),(.bool false),(.bool false),(.int .i64 0)]]),(.int .i64 0)])⟩
theorem iD:PF.Ok Tryz.prog:=Y9 (l:=[Lm,XD,XF,XG,Mq,PA,PB,IV,PC,PE]) ⟨NU,qk,qm,qn,UP,gY,hU,QO,iA,iC,trivial⟩ PF (by kernel_rfl)
def PR:Aq:=⟨12,[GZ,EL,(.agg [(.int .i64 4),(.int .i64 1),(.int .i64 0),(.int .i64 0),(.bool false),(.int .i64 0),.Ae,(.bool true)])],(.tuple [gQ,(.Aj [[(.int .i64 9),(.int .i64 0),(.int .i64 0),(.int .i64 0),(.bool false),(.bool false),(.int .i64 0)],[(.int .i64 5),(.int .i64 0),(.int .i64 0),(.int .i64 0),(.bool false),(.bool true),(.int .i64 1)],[(.int .i64 3),(.int .i64 0),(.int .i64 2),(.int .i64 0),(.bool false),(.bool false),(.int .i64 0)],[(.int .i64 10),(.int .i64 1),(.int .i64 0),(.int .i64 0),(.bool false),(.bool false),(.int .i64 0)]]),(.int .i64 0)])⟩
theorem iM:PR.Ok Tryz.prog:=Y9 (l:=[Lm,IW,PG,PI,PK,PM,PO]) ⟨NU,QS,iE,iF,iH,iJ,iL,trivial⟩ PR (by kernel_rfl)
def PW:Aq:=⟨12,[GZ,EL,(.agg [(.int .i64 1),(.int .i64 10),(.int .i64 0),(.int .i64 0),(.bool false),(.int .i64 0),.Ae,(.bool false)])],(.tuple [FW,(.Aj [[(.int .i64 9),(.int .i64 2),(.int .i64 0),(.int .i64 0),(.bool false),(.bool false),(.int .i64 0)],[(.int .i64 1),(.int .i64 2),(.int .i64 0),(.int .i64 0),(.bool false),(.bool false),(.int .i64 0)]]),(.int .i64 0)])⟩
theorem iT:PW.Ok Tryz.prog:=Y9 (l:=[Lm,IW,PS,PT,PV]) ⟨NU,QS,iO,iQ,iS,trivial⟩ PW (by kernel_rfl)
def Qd:Aq:=⟨12,[GZ,FW,(.agg [(.int .i64 1),(.int .i64 1),(.int .i64 0),(.int .i64 0),(.bool false),(.int .i64 0),.Ae,(.bool false)])],(.tuple [(.agg [(.int .i64 10),.Ae]),(.Aj [[(.int .i64 9),(.int .i64 0),(.int .i64 0),(.int .i64 0),(.bool false),(.bool false),(.int .i64 0)],[(.int .i64 1),(.int .i64 0),(.int .i64 0),(.int .i64 0),(.bool false),(.bool false),(.int .i64 0)]]),(.int .i64 0)])⟩
theorem jB:Qd.Ok Tryz.prog:=Y9 (l:=[Lm,PX,PY,Qa,Qc]) ⟨NU,iU,iW,iY,jA,trivial⟩ Qd (by kernel_rfl)
def Qe:Aq:=⟨22,[GZ,EL,(.Aj [[(.int .i64 1),(.int .i64 10),(.int .i64 0),(.int .i64 0),(.bool false),(.int .i64 0),.Ae,(.bool false)],[(.int .i64 1),(.int .i64 1),(.int .i64 0),(.int .i64 0),(.bool false),(.int .i64 0),.Ae,(.bool false)]])],(.tuple [(.agg [(.int .i64 10),.Ae]),(.int .i64 2),(.int .i64 0)])⟩
theorem jC:Qe.Ok Tryz.prog:=Y9 (l:=[Lm,IW,PW,Qd]) ⟨NU,QS,iT,jB,trivial⟩ Qe (by kernel_rfl)
def QM:Aq:=⟨36,[GZ,ER,(.int .i64 9),UJ],(.tuple [UI,(.int .i64 0)])⟩
theorem kN:QM.Ok Tryz.prog:=Y9 (l:=[Lm,XD,XF,Mu]) ⟨NU,qk,qm,kM,trivial⟩ QM (by kernel_rfl)
def QN:Aq:=⟨37,[(.agg [(.int .i64 2),(.bool true),(.int .i64 5)])],(.str [50,82,53])⟩
theorem kO:QN.Ok Tryz.prog:=Y9 (l:=[]) trivial QN (by kernel_rfl)
def UM:Aq:=⟨11,[],(.bool true)⟩
theorem kP:UM.Ok Tryz.prog:=Y9 (l:=[gT,gU,gV,gW,PF,PR,Qe,Qf,Qg,QM,QN]) ⟨mo1,mo3,mo4,mo5,iD,iM,jC,jD,jE,kN,kO,trivial⟩ UM (by kernel_rfl)
end Go.Ac
end
section
namespace Go.Ac
open Go Go.AE Go.Proofs
open Go.Plain
def Mx(ls:List Lt)(i:Nat):Lt:=at' ls ((i+1) % ls.length)
def FL(ls:List Lt)(i:Nat):Prop:=(at' ls i).k=1→Z8 ls i=true→(Mx ls i).k=1∧((Mx ls i).g - (at' ls i).g=1∨(at' ls i).g - (Mx ls i).g=1)
def Fq(ls:List Lt):Prop:=∀ i,i<ls.length→FL ls i
open Classical in
noncomputable def Fb(ls:List Lt):Bool:=decide (Fq ls)
theorem Z8e{ls:List Lt}(h:Fq ls):Fb ls=true:=by unfold Fb; simp[h]
theorem xu{ls:List Lt}(h:¬Fq ls):Fb ls=false:=by unfold Fb; simp[h]
theorem IL(l:Lt):Al Tryz.prog 77 [.agg (Ab l)] (.bool (decide (l.k=1))):=by
 refine R2 hm Tryz.func77 mK rfl rfl (by simp[X8,Aa.closed,Ab]) trivial fun K hK=>?_
 by_cases h1:l.k=1
 ·simp[Ab,h1];exact Z4 hK [] (by simp[h1])
 ·simp[Ab,h1];exact Z4 hK [] (by simp[h1])
set_option maxRecDepth 100000 in
set_option maxHeartbeats 8000000 in
theorem bY(f:Int)(ls:List Lt)(h:ls.length≤1000)(hq:∀ l,l∈ls→l.k=1→0≤l.g∧l.g≤40):Al Tryz.prog 76 [cV f ls] (.bool (Fb ls)):=by
 refine R2 hm Tryz.func76 qQ rfl rfl (by simp[X8,Aa.closed,X5]) trivial fun K hK=>?_
 have Ak:∀ q,Z3 q (ls.map Ab)=ls.map Ab:=fun q=>Y1 q _ (X5 ls)
 have hlen:(ls.map Ab).length=ls.length:=lM ..;have hg:=fun i hi=>Lu ls (i:=i) hi
 have h151:=IL;unfold cV at *;generalize ls.map Ab=rows at *;simp[hlen];refine W5 (α:=Nat) (fun i=>[(10,.int .i64 i),(9,.int .i64 ls.length),(8,.Aj rows),(3,.bool (!Z8 ls i)),(1,.ptr 1 0 0)]) (fun _=>⟨[(1,.cells 2 [[.int .i64 f,.Aj rows]])],2⟩) (fun i=>ls.length - i) (fun i=>i≤ls.length ∧ ∀ j,j<i→FL ls j) 0 [] (by simp[Ak]; rfl) (by simp) ?_
 rintro i ⟨hi,hI⟩ N hN
 try simp only at hi hN ⊢
 by_cases hlt:i<ls.length
 ·have hgi:=hg i hlt;obtain⟨hgl,hg2⟩:=Y8 hgi;have hw:=Y7 ((i:Int)+1);have h8:=h151 (at' ls i);have hN':=hN (i+1) [];rw[Tj hlt]at hN';by_cases hk:(at' ls i).k=1
  ·have hp:Am (at' ls i)=true:=by simp[Am,hk]
   rw[iP hp]at hN';obtain⟨y,hy⟩:∃ y:Nat,(i+1) % ls.length=y:=⟨_,rfl⟩
   have hj:y<ls.length:=by rw[← hy]; exact Nat.mod_lt _ (by omega)
   have hy3:((i:Int)+1).tmod (ls.length:Int)=(y:Int):=by rw[← hy]; rfl
   have hl0:¬(ls.length:Int)=0:=by omega
   have hl1:¬ls.length=0:=by omega
   have hl2:¬ls=[]:=fun e=>hl1 (by rw[e]; rfl)
   have hgj:=hg _ hj;obtain⟨hgjl,hgj2⟩:=Y8 hgj;have h9:=h151 (at' ls y);have CY:Mx ls i=at' ls y:=by unfold Mx; rw[hy]
   have hPI:FL ls i↔(Z8 ls i=true→(at' ls y).k=1∧((at' ls y).g - (at' ls i).g=1∨(at' ls i).g - (at' ls y).g=1)):=by
    unfold FL;rw[CY];exact⟨fun hh=>hh hk,fun hh _=>hh⟩
   have hnext:FL ls i → ∀ j,j<i+1→FL ls j:=fun hp j hj=>by
    by_cases hji:j=i
    ·subst hji; exact hp
    ·exact hI j (by omega)
   have hno:¬FL ls i→Fb ls=false:=fun hn=>xu fun hP=>hn (hP i hlt)
   rw[decide_eq_true hk]at h8;simp only[Ab,hk]at h8;have hq1:=hq _ (O0 hlt) hk;simp[hlen,hlt,hg2,Ab,hk];refine Y5 h8 ?_;by_cases hd:Z8 ls i=true
   ·have hd':Z8 ls i=true:=hd;by_cases hk2:(at' ls y).k=1
    ·have hq2:=hq _ (O0 hj) hk2;rw[decide_eq_true hk2]at h9;simp only[Ab,hk2]at h9;have w1:=Y7 ((at' ls y).g - (at' ls i).g);have w2:=Y7 ((at' ls i).g - (at' ls y).g);simp[hlen,hw,hy3,hl1,hgj,hd,Ab,hk2];refine Y5 h9 ?_;by_cases c1:(at' ls y).g - (at' ls i).g=1
     ·simp[hw,w2,c1];exact hN' _ _ (by omega) ⟨by omega,hnext (hPI.2 fun _=>⟨hk2,.inl c1⟩)⟩ (by simp[Ak,hd'])
     ·by_cases c2:(at' ls i).g - (at' ls y).g=1
      ·simp[hw,w1,c1,c2];exact hN' _ _ (by omega) ⟨by omega,hnext (hPI.2 fun _=>⟨hk2,.inr c2⟩)⟩ (by simp[Ak,hd'])
      ·rw[hno fun hp=>((hPI.1 hp hd').2.elim c1 c2)]at hK
       simp[w1,w2,c1,c2];exact Z4 hK [] (by simp)
    ·rw[decide_eq_false hk2]at h9;simp only[Ab]at h9;simp[hlen,hw,hy3,hl1,hgj,hd,Ab];refine Y5 h9 ?_;rw[hno fun hp=>hk2 (hPI.1 hp hd').1]at hK
     simp[hlen,hlt,hw];exact Z4 hK [] (by simp)
   ·have hd':Z8 ls i=false:=by simpa using hd
    simp[hlen,hw,hy3,hl1,hgj,hd',Ab];exact hN' _ _ (by omega) ⟨by omega,hnext (hPI.2 fun e=>absurd (hd'.symm.trans e) (by simp))⟩ (by simp[Ak,hd'])
  ·have hp:Am (at' ls i)=false:=by simp[Am,hk]
   rw[iN (by simp[hp])]at hN'
   rw[decide_eq_false hk]at h8;simp only[Ab]at h8;simp[hlen,hlt,hg2,Ab];refine Y5 h8 ?_;simp[hw];refine hN' _ _ (by omega) ⟨by omega,fun j hj=>?_⟩ (by simp[Ak])
   by_cases hji:j=i
   ·subst hji; exact fun e=>absurd e hk
   ·exact hI j (by omega)
 ·have hie:i=ls.length:=by omega
  subst hie;have hv:Fq ls:=hI;rw[Z8e hv]at hK;simp[hlen,hlt];exact Z4 hK [] (by simp)
end Go.Ac
end
section
namespace Go.AE
open Go.RowKit
section
variable {P:Program} {n base:Nat}
theorem calleeF_E{e:Env}{f:Ah}{xs:List Ah}{g:FuncId}{args:List Aa}(h:T4 n e f xs=some (g,args)):u5 (Be n e) f xs=some (.func g,args):=by
 unfold T4 at h;unfold u5;rw[G5];grind
theorem Zb{cw:Hh}(XA:∀ fn args m id K,dZ P fn args m id K→cw fn args m id K){K:Env→Ad→Prop}{K':AY→Prop}(hk:∀ e m,K e m→K' ⟨Be n e,m.mem⟩):∀ (ops:List Af) (i:Nat) (e:Env) (m:Ad),
 V7 P false n base ops i K e m→Rm Z5 cw base ops i K' (Be n e) m.mem
 | [],_,_,_,h=>hk _ _ h
 | o :: r,i,e,m,h=>by
  simp only[V7]at h;simp only[Rm,Rj];cases hw:Q7 n e o.guard with
  | none=>rw[hw]at h; exact h
  | some q=>
   rw[hw]at h;cases q with
   | false=>
    simp only[J4];exact Zb XA hk r _ _ _ h
   | true=>
    simp only[GS]at h;simp only;have other:∀ op,GC (Y6 (base+i) (AG n e) m.get op) (fun v d=>V7 P false n base r (i+1) K (W3 e o.dst v) (m.app d)) →
     (match Z5 (base+i) (Be n e) m.mem op with|some (v,m')=>Rm Z5 cw base r (i+1) K' (put (Be n e) o.dst v) m'|none=>False):=by
     intro op hh;cases hs:Y6 (base+i) (AG n e) m.get op with
     | none=>rw[hs]at hh; exact hh.elim
     | some vd=>
      obtain⟨v,d⟩:=vd;rw[hs]at hh;have:=OF (t:=Be n e) (m:=m.mem) (op:=op) (v:=v) (d:=d) (id:=base+i) (by rw[G5]; exact hs)
      rw[this];simp only[J4];rw[← Ad.Bz];exact Zb XA hk r _ _ _ hh
    cases hop:o.op with
    | call f xs=>
     simp only[hop]at h;simp only;cases hc:T4 n e f xs with
     | none=>rw[hc]at h; exact h.elim
     | some ga=>
      obtain⟨g,args⟩:=ga;rw[hc]at h;rw[calleeF_E hc];simp only;refine XA _ _ _ _ _ ⟨g,rfl,?_⟩;refine Au.mono (h:SC P g args m (base+i) _) fun v m'' hh=>?_
      obtain⟨m',rfl,hk'⟩:=hh;simp only[J4];exact Zb XA hk r _ _ _ hk'
    | _=>rw[hop]at h; exact other _ h
def Rf(P:Program)(n:Nat):An→(Exit→Env→Ad→Prop)→Env→Ad→Prop
 | .skip,Q,e,m=>Q .normal e m
 | .region false ops,Q,e,m=>V7 P false n m.next ops 0 (Q .normal) e (m.at (m.next+ops.length))
 | .seq x y,Q,e,m=>Rf P n x (M8 (Rf P n y Q) Q) e m
 | .cond c x y,Q,e,m=>Ly (AG n e c) (Rf P n x Q e m) (Rf P n y Q e m)
 | .block id c,Q,e,m=>Rf P n c (G3 id Q) e m
 | .ret,Q,e,m=>Q .ret e m
 | _,_,_,_=>False
def UZ(e:Env):List (Nat×Aa)→Env
 | []=>e
 | (i,x) :: r=>UZ ((i,x) :: e) r
end
structure Yd where
 b:Nat
 n:Nat
 ps:List Nat
 e:Env
 A:An
 B:An
 wr:List FuncId:=[]
def YC(P:Program)(y:Yd)(args:List Aa)(m:Ad)(K:Aa→Ad→Prop):Prop:=
 args.length=y.ps.length∧Rf P y.n y.A (fun x e m=>match x with
  | .normal=>Rf P y.n y.B (fun x _ m=>match x with
   | .normal=>K (.bool true) m
   | _=>False) e m
  | _=>False) (UZ y.e (y.ps.zip args)) m
section
variable {P:Program} {y:Yd} {n n0 base:Nat}
def Rg(P:Program)(y:Yd)(n base:Nat):List Af→Nat→(Env→Ad→Prop)→Env→Ad→Prop
 | [],_,K,e,m=>K e m
 | o :: r,i,K,e,m=>GS (Q7 n e o.guard)
  (match o.op with
  | .call f xs=>(match AG n e f with
   | .FH b=>b=y.b∧YC P y (xs.map (AG n e)) m fun v m'=>Rg P y n base r (i+1) K (W3 e o.dst v) m'
   | _=>False)
  | op=>GC (Y6 (base+i) (AG n e) m.get op) fun v d=>Rg P y n base r (i+1) K (W3 e o.dst v) (m.app d))
  (Rg P y n base r (i+1) K (W3 e o.dst Ag) m)
def WC(P:Program)(g:FuncId)(args:List Aa)(k:Nat)(x:List Nat)(m:Ad)(K:List Nat→Aa→Ad→Prop):Prop:=
 ∃ wl v,∃ m':Ad,MX P g args k x m.mem v m'.mem wl∧K wl v m'
def By(base i n:Nat):List Nat:=NX n (base+i+1)
def Hf(P:Program)(keep:List Nat)(n base:Nat):List Af→Nat→List (Nat×FT)→(Env→Ad→Prop)→Env→Ad→Prop
 | [],_,_,K,e,m=>K e m
 | o :: r,i,fs,K,e,m=>match Q7 n e o.guard with
  | some true=>(match o.op with
   | .call f xs=>(match T4 n e f xs with
    | some (g,args)=>WC P g args (base+i) (By base i r.length) m fun wl v m'=>K3 fs (.call wl (By base i r.length) m.next) o.un∧Hf P keep n base r (i+1) (N3 keep i (.call wl (By base i r.length) m.next) fs) K (W3 e o.dst v) m'
    | none=>False)
   | op=>(match Y6 (base+i) (AG n e) m.get op with
    | some (v,d)=>K3 fs (.ops (T3 (base+i) (AG n e) op) (T2 (AG n e) op)) o.un∧Hf P keep n base r (i+1) (N3 keep i (.ops (T3 (base+i) (AG n e) op) (T2 (AG n e) op)) fs) K (W3 e o.dst v) (m.app d)
    | none=>False))
  | some false=>Hf P keep n base r (i+1) (N3 keep i (.ops [] []) fs) K (W3 e o.dst Ag) m
  | none=>False
theorem Xm{keep:List Nat}{K:Env→Ad→Prop}:∀ (ops:List Af) (fs:List (Nat×FT)) (gs:List FT) (e:Env) (m:Ad),
 (∀ j f,M5 fs j=some f→gs.getD j (.ops [] [])=f∧j<gs.length)→Hf P keep n base ops gs.length fs K e m→R9 P base ops gs (fun σ=>∃ e m,σ=⟨Be n e,Ad.mem m⟩∧K e m) (Be n e) m.mem
 | [],_,_,e,m,_,h=>⟨e,m,rfl,h⟩
 | o :: r,fs,gs,e,m,hr,h=>by
  have hl:∀ f:FT,(gs++[f]).length=gs.length+1:=fun f=>by simp
  have hrec:∀ f,∀ j g,M5 (N3 keep gs.length f fs) j=some g→(gs++[f]).getD j (.ops [] [])=g∧j<(gs++[f]).length:=by
   intro f j g hj;have old:∀ j g,M5 fs j=some g→(gs++[f]).getD j (.ops [] [])=g∧j<(gs++[f]).length:=fun j g h1=>by
    grind
   unfold N3 at hj;cases hm:U8 gs.length keep with
   | false=>grind
   | true=>
    rw[hm]at hj;simp only[cond_true,M5]at hj
    grind
  simp only[Hf]at h;simp only[R9,Rj];cases hw:Q7 n e o.guard with
  | none=>grind
  | some b=>
   rw[hw]at h;cases b with
   | false=>
    simp only[J4];exact Xm r _ _ _ _ (hrec _) (by rw[hl]; exact h)
   | true=>
    simp only at h ⊢;have other:∀ op,(match Y6 (base+gs.length) (AG n e) m.get op with
     | some (v,d)=>K3 fs (.ops (T3 (base+gs.length) (AG n e) op) (T2 (AG n e) op)) o.un∧Hf P keep n base r (gs.length+1) (N3 keep gs.length (.ops (T3 (base+gs.length) (AG n e) op) (T2 (AG n e) op)) fs) K (W3 e o.dst v) (m.app d)
     | none=>False) →
     (match Z5 (base+gs.length) (Be n e) m.mem op with|some (v,m')=>O6 gs (.ops (T8 (base+gs.length) (Be n e) op) (L4 (Be n e) op)) o.un∧R9 P base r (gs++[.ops (T8 (base+gs.length) (Be n e) op) (L4 (Be n e) op)]) (fun σ=>∃ e m,σ=⟨Be n e,Ad.mem m⟩∧K e m) (put (Be n e) o.dst v) m'|none=>False):=by
     intro op hh;cases hs:Y6 (base+gs.length) (AG n e) m.get op with
     | none=>grind
     | some vd=>
      obtain⟨v,d⟩:=vd;rw[hs]at hh;have:=OF (m:=m.mem) (t:=Be n e) (id:=base+gs.length) (op:=op) (v:=v) (d:=d) (by rw[G5]; exact hs)
      rw[this];simp only[J4,WD,WE,G5];rw[← Ad.Bz];exact⟨Sq (fun j f hj=>(hr j f hj).1) hh.1,Xm r _ _ _ _ (hrec _) (by rw[hl]; exact hh.2)⟩
    cases hop:o.op with
    | call f xs=>
     simp only[hop]at h;simp only[Ts];cases hc:T4 n e f xs with
     | none=>grind
     | some ga=>
      obtain⟨g,args⟩:=ga;rw[hc]at h;obtain⟨wl,v,m',h1,h0,h2⟩:=h;refine⟨wl,_,v,_,h1,Sq (fun j f hj=>(hr j f hj).1) h0,?_⟩
      simp only[J4];exact Xm r _ _ _ _ (hrec _) (by rw[hl]; exact h2)
    | _=>(have hh:=other o.op; rw[hop]at h hh; exact hh h)
def K7(l:List FuncId):AU→Bool
 | .call (.fn g) _=>U8 g l
 | _=>false
def Ll(l:List FuncId):Af→Bool
 | ⟨_,op,_,_⟩=>K7 l op
def H5(q:Nat→Nat)(n:Nat)(ks:List Nat):List (Nat×Ai)→Bool
 | []=>true
 | (d,_) :: r=>(U8 (q d) ks||Nat.ble n d)&&H5 q n ks r
theorem rA{q:Nat→Nat}{n:Nat}{ks:List Nat}:∀ {l:List (Nat×Ai)},H5 q n ks l=true → ∀ d y,X2 l d=some y→q d∈ks∨n≤d
 | [],_,d,y,h=>by simp[X2]at h
 | (c,x) :: r,hs,d,y,h=>by
  simp only[H5,bA,Bool.or_eq_true]at hs;simp only[X2]at h;split at h
  ·rename_i e;subst e;rcases hs.1 with h1|h1
   ·exact .inl (BF.1 h1)
   simp_all
  ·exact rA hs.2 d y h
theorem D4{g:FuncId}{Cu args:List Aa}{m0 Lo m:Ad}{v0:Aa}{k:Nat}{x:List Nat}{K:List Nat→Aa→Ad→Prop}(h:AV P g Cu m0 fun r sm=>r=v0∧sm=Lo)(CY:m0.next≤Lo.next)(l:List (Nat×Nat))(ha:Q5 (Ce l 0 m0.next m.next) Cu=args)
 (hs:Bv (Ce l 0 m0.next m.next) m0.bl m) (hi:Cm (Ce l 0 m0.next m.next) m0.bl) (hsub:H5 (Ce l 0 m0.next m.next) m0.next (M7 (Ce l 0 m0.next m.next) m0.bl) Lo.bl=true) (hk:k∉x) (hx:∀ b,b∈M7 (Ce l 0 m0.next m.next) m0.bl→b∉x)
 (hx0:∀ c,c∈x→m.get c=none) (gI:∀ c,c∈x→X2 (K5 (Ce l 0 m0.next m.next) Lo.bl (R0 (M7 (Ce l 0 m0.next m.next) m0.bl) m.bl)) c=none)
 (hK:K (M7 (Ce l 0 m0.next m.next) m0.bl) (v0.AI (Ce l 0 m0.next m.next)) ⟨K5 (Ce l 0 m0.next m.next) Lo.bl (R0 (M7 (Ce l 0 m0.next m.next) m0.bl) m.bl),Lo.next - m0.next+m.next⟩):WC P g args k x m K:=by
 subst ha;refine⟨_,_,_,?_,hK⟩;obtain⟨q,hq⟩:∃ q,Ce l 0 m0.next m.next=q:=⟨_,rfl⟩
 have hqn:∀ c,m0.next≤c→q c=c - m0.next+m.next:=fun c hc=>by
  rw[← hq];simp only[Ce,Nat.not_lt_zero,if_false]
  grind
 rw[hq]at hs hi hsub hx gI ⊢;obtain⟨m3,hm3⟩:∃ m3:Ad,m3=⟨K5 q Lo.bl (R0 (M7 q m0.bl) m.bl),Lo.next - m0.next+m.next⟩:=⟨_,rfl⟩
 have hget:∀ c,m3.mem.get c=X2 (K5 q Lo.bl (R0 (M7 q m0.bl) m.bl)) c:=fun c=>by rw[hm3]; rfl
 rw[← hm3];refine⟨m3.mem,hk,fun c hc=>by grind,?_,rfl,fun c=>?_,fun c hw hlt hc=>?_,?_⟩
 ·show m.next≤m3.next
  grind
 ·by_cases hc:c∈x
  ·rw[iP hc,hget,gI c hc];exact(hx0 c hc).symm
  ·rw[iN hc]
 ·rw[hget];cases hy:X2 (K5 q Lo.bl (R0 (M7 q m0.bl) m.bl)) c with
  | some y=>
   rcases Xe hy with⟨d,z,h1,h2,h3⟩|h1
   ·exfalso;rcases rA hsub d z h1 with h4|h4
    ·grind
    ·rw[h2,hqn d h4]at hlt;have:d - m0.next+m.next<m.next:=hlt;omega
   ·exact(MI h1).1.symm
  | none=>
   cases hz:m.mem.get c with
   | none=>rfl
   | some z=>
    exfalso;have h1:X2 (R0 (M7 q m0.bl) m.bl) c=some z:=by
     have:∀ l:List (Nat×Ai),X2 l c=some z→X2 (R0 (M7 q m0.bl) l) c=some z:=by
      intro l
      induction l with
      | nil=>intro h; simp[X2]at h
      | cons a r ih=>
       obtain⟨d,w⟩:=a;intro h;simp only[X2]at h;simp only[R0];cases hm:U8 d (M7 q m0.bl)with
       | true=>
        simp only[cond_true];refine ih ?_;rw[iN (fun e:c=d=>hw (by rw[e]; exact BF.1 hm))]at h
        exact h
       | false=>
        simp only[cond_false,X2]
        grind
     exact this _ hz
    have h2:∀ (l t:List (Nat×Ai)),X2 t c=some z→X2 (K5 q l t) c≠none:=by
     intro l t ht
     induction l with
     | nil=>simp only[K5]; rw[ht]; simp
     | cons a r ih=>
      obtain⟨d,w⟩:=a;simp only[K5,X2]
      grind
    exact h2 _ _ h1 hy
 ·refine nK h (m:=m.mem.less x) (q:=q) (fun c y hy=>?_) (fun c c' y y' hy hy'=>hi.get c c' y y' hy hy') hqn (fun r0 m1 hh=>?_) [k]
  ·have hn:q c∉x:=hx _ (aW hy);obtain⟨z,Gu,hz2⟩:=hs.get c y hy;refine⟨z,?_,hz2⟩;show(if q c∈x then none else m.mem.get (q c))=some z
   rw[iN hn];exact Gu
  ·obtain⟨sm,rfl,rfl,rfl⟩:=hh;refine⟨m3.mem,by rw[hm3]; rfl,fun b y hb=>?_,rfl,rfl⟩
   have hbx:b∉x:=fun hin=>by
    grind
   rw[hget]at hb;rcases Xe hb with⟨c,z,h1,h2,h3⟩|h1
   ·exact .inl ⟨c,z,h1,h2,h3⟩
   ·have h2:=MI h1;refine .inr ⟨?_,fun c z hc e=>h2.2 (e ▸ aW hc)⟩
    show(if b∈x then none else m.mem.get b)=some y
    rw[iN hbx];exact h2.1
def K6:AU→Bool
 | .call (.tmp _) _=>true
 | _=>false
def isY:Af→Bool
 | ⟨_,op,_,_⟩=>K6 op
def HB(H:EC)(n0:Nat):EC:=fun W Φ ρ=>∃ Dh CQ,H W Dh CQ∧(∀ b l,CQ b=some l→b<n0)∧(∀ B c,Dh B=some c→Φ B=some c) ∧ ∀ b,b<n0→ρ b=CQ b
variable {Q:Exit→Env→Ad→Prop} {K:Env→Ad→Prop} {e:Env} {m:Ad}
theorem xD{keep:List Nat}{i:Nat}{fs:List (Nat×FT)}:Hf P keep n base [] i fs K e m=K e m:=propext Iff.rfl
theorem xV{keep:List Nat}{i:Nat}{fs:List (Nat×FT)}(d:Option Nat)(op:AU)(un:List Nat)(r:List Af):Hf P keep n base (⟨d,op,none,un⟩ :: r) i fs K e m=match op with
 | .call f xs=>(match T4 n e f xs with
  | some (g,args)=>WC P g args (base+i) (By base i r.length) m fun wl v m'=>K3 fs (.call wl (By base i r.length) m.next) un∧Hf P keep n base r (i+1) (N3 keep i (.call wl (By base i r.length) m.next) fs) K (W3 e d v) m'
  | none=>False)
 | op=>(match Y6 (base+i) (AG n e) m.get op with
  | some (v,w)=>K3 fs (.ops (T3 (base+i) (AG n e) op) (T2 (AG n e) op)) un∧Hf P keep n base r (i+1) (N3 keep i (.ops (T3 (base+i) (AG n e) op) (T2 (AG n e) op)) fs) K (W3 e d v) (m.app w)
  | none=>False):=by
 cases op<;>rfl
@[congr] theorem Yeh{g : FuncId}{args args' : List Aa}{k : Nat}{x : List Nat}{m : Ad}{K : List Nat → Aa → Ad → Prop}(h : args = args') : WC P g args k x m K = WC P g args' k x m K := by rw [h]
end
section
theorem Zzh(d:Option Nat)(op:AU)(g:Option (Nat×Bool))(un:List Nat):isY ⟨d,op,g,un⟩=K6 op:=rfl
theorem Z6a(f:FuncId)(xs:List Ah):K6 (.call (.fn f) xs)=false:=rfl
theorem Z9j(t:Nat)(xs:List Ah):K6 (.call (.tmp t) xs)=true:=rfl
theorem Z0y(l:List FuncId)(d:Option Nat)(op:AU)(g:Option (Nat×Bool))(un:List Nat):Ll l ⟨d,op,g,un⟩=K7 l op:=rfl
theorem Ydo(l:List FuncId)(f:FuncId)(xs:List Ah):K7 l (.call (.fn f) xs)=U8 f l:=rfl
theorem Z6h(l:List FuncId)(t:Nat)(xs:List Ah):K7 l (.call (.tmp t) xs)=false:=rfl
theorem Z0b(x:Ah):K6 (.Fz x)=false:=rfl
theorem Z0e(l:List FuncId)(x:Ah):K7 l (.Fz x)=false:=rfl
theorem Z9r(n:Option Nat)(x:Ah):K6 (.load n x)=false:=rfl
theorem Z6d(l:List FuncId)(n:Option Nat)(x:Ah):K7 l (.load n x)=false:=rfl
theorem Z5c(n:Nat)(a x:Ah):K6 (.store n a x)=false:=rfl
theorem Z41(l:List FuncId)(n:Nat)(a x:Ah):K7 l (.store n a x)=false:=rfl
theorem Z6u(o:Nat)(x:Ah):K6 (.Bw o x)=false:=rfl
theorem Z1s(l:List FuncId)(o:Nat)(x:Ah):K7 l (.Bw o x)=false:=rfl
theorem Z8r(k:Nat)(x i:Ah):K6 (.BZ k x i)=false:=rfl
theorem Z2m(l:List FuncId)(k:Nat)(x i:Ah):K7 l (.BZ k x i)=false:=rfl
theorem td(x:Ah):K6 (.Ca x)=false:=rfl
theorem Z6w(l:List FuncId)(x:Ah):K7 l (.Ca x)=false:=rfl
theorem Z1v(x:Ah):K6 (.Cd x)=false:=rfl
theorem Z73(l:List FuncId)(x:Ah):K7 l (.Cd x)=false:=rfl
theorem ym(o:UnOp)(x:Ah):K6 (.un o x)=false:=rfl
theorem Zzo(l:List FuncId)(o:UnOp)(x:Ah):K7 l (.un o x)=false:=rfl
theorem Z9s(c a b:Ah):K6 (.pick c a b)=false:=rfl
theorem Z6k(l:List FuncId)(c a b:Ah):K7 l (.pick c a b)=false:=rfl
theorem x8(o:BinOp)(q:Fp)(x y:Ah):K6 (.bin o q x y)=false:=rfl
theorem Z56(l:List FuncId)(o:BinOp)(q:Fp)(x y:Ah):K7 l (.bin o q x y)=false:=rfl
theorem tj(z:List Aa):K6 (.alloc z)=false:=rfl
theorem Z4n(l:List FuncId)(z:List Aa):K7 l (.alloc z)=false:=rfl
theorem vh(z:List Aa)(p:List (Nat×Nat×Ah)):K6 (.build z p)=false:=rfl
theorem Z8u(l:List FuncId)(z:List Aa)(p:List (Nat×Nat×Ah)):K7 l (.build z p)=false:=rfl
theorem Z44(k n:Nat)(z:List Aa)(p:List (Nat×Ah)):K6 (.CO k n z p)=false:=rfl
theorem Z5u(l:List FuncId)(k n:Nat)(z:List Aa)(p:List (Nat×Ah)):K7 l (.CO k n z p)=false:=rfl
theorem Z1l(k b:Nat)(z:List Aa)(s x:Ah):K6 (.append k b z s x)=false:=rfl
theorem Z4p(l:List FuncId)(k b:Nat)(z:List Aa)(s x:Ah):K7 l (.append k b z s x)=false:=rfl
theorem Z6c(t:Br)(z:Aa)(o:Bool)(x i:Ah):K6 (.lookup t z o x i)=false:=rfl
theorem yg(l:List FuncId)(t:Br)(z:Aa)(o:Bool)(x i:Ah):K7 l (.lookup t z o x i)=false:=rfl
theorem Z3u(t:Br)(a b c:Ah):K6 (.Bx t a b c)=false:=rfl
theorem Z5d(l:List FuncId)(t:Br)(a b c:Ah):K7 l (.Bx t a b c)=false:=rfl
theorem Z8m:K6 (.mkMap)=false:=rfl
theorem Z8n(l:List FuncId):K7 l (.mkMap)=false:=rfl
attribute [simp] Zzh Z6a Z9j Z0y Ydo Z6h Z0b Z0e Z9r Z6d Z5c Z41 Z6u Z1s Z8r Z2m td Z6w Z1v Z73 ym Zzo Z9s Z6k x8 Z56 tj Z4n vh Z8u Z44 Z5u Z1l Z4p Z6c yg Z3u Z5d Z8m Z8n
end
end Go.AE
end
