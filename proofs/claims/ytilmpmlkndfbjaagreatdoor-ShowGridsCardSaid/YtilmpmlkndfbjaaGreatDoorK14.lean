/- Part 14 of the proof: Ra, Lb, AeWv. -/
import Derived.Test.YtilmpmlkndfbjaaGreatDoorK1
import Derived.Test.YtilmpmlkndfbjaaGreatDoorK12
import Derived.Test.YtilmpmlkndfbjaaGreatDoorK13
set_option linter.all false
section
namespace Go.Ab
open Go Go.AE Go.Proofs
open Go.Plain
attribute [local simp] KV KF Kv KM K8 KI K2 Ku KT HG HJ HC HK HL HF JC Ld Kb Jw JF Kk JM Kz KE KZ KY Kl KU K4 KD JO KP K6 Jv Kt Ks Kw JI KR K7 K1 Jx Kq Kd KB JU Ky JY JG JZ Kc Ko KX KN Km JX K3 Jy KW Kr Kg Kx JP JE Kf Jz Lf Iy JW Env.get P3 Ac.at Ac.app Ac.get Y2 P0 Aa.cells Aa.one J4 C0 Ke KQ K9 K5 JQ KL Jq JL KJ Ka Jt KH KC Ga F5 N6 H9 I8 U5 Aj La Ki JT JH O3 X3 J0 M0 I6 D4 Q6 I0 Bq BY BB Cz Df Bz W5 Aa.AA U3 Z3 Ag.AA I2 MF T7 Q3 Z8 W6 L7 Q8 N8
abbrev XI(f:Int)(rows:List (List Aa)):Ag:=.cells 7 [[.int .i64 f,.An rows,.Ai,.Ai,.Ai,.Ay,.Ai]]
abbrev NX(f:Int)(rows:List (List Aa)):Ac:=⟨[(1,XI f rows)],2⟩
abbrev Mk(f:Int)(rows:List (List Aa)):Ac:=⟨[(2,.cells 1 [[.ptr 1 0 0]]),(1,XI f rows)],3⟩
set_option maxHeartbeats 1000000 in
theorem dV(f:Int)(rows:List (List Aa))(As:∀ q,Z3 q rows=rows)(l:Lt) :
 Cc Tryz.prog 172 [.agg (Ad l),.ptr 2 0 0] (Mk f rows) fun r m=>r=.bool (!DG f l)∧m=Mk f rows:=by
 refine It hm Tryz.func172 lN rfl rfl fun K hK=>?_
 rcases l with⟨lk,lg,lr,li,lsn,lo⟩
 have fin:∀ b m,(!DG f ⟨lk,lg,lr,li,lsn,lo⟩)=b→Bq 3 [] [(0,.bool b)] (Mk f rows) [(0,.bool b)] m→M4 3 K (.bool b) m:=
  fun b m hb h=>by subst hb; exact Z6 hK [] h
 clear hK;by_cases h1:lk=1
 ·by_cases h2:lg<0
  ·have h2':¬0≤lg:=by omega
   simp[Ad,h1,h2]; exact fin _ _ (by simp[DG,h1,h2']) (by simp[As])
  have h2':0≤lg:=by omega
  by_cases h3:f<lg
  ·have h3':¬lg≤f:=by omega
   simp[Ad,h1,h2,h3]; exact fin _ _ (by simp[DG,h1,h2',h3']) (by simp[As])
  have h3':lg≤f:=by omega
  by_cases h4:li=0
  ·by_cases h5:lsn=0
   ·cases lo with
    | true=>
     simp[Ad,h1,h2,h3,h4,h5]; exact fin _ _ (by simp[DG,h1,h2',h3',h4,h5]) (by simp[As])
    | false=>
     simp[Ad,h1,h2,h3,h4,h5]; exact fin _ _ (by simp[DG,h1,h2',h3',h4,h5]) (by simp[As])
   ·simp[Ad,h1,h2,h3,h4,h5]; exact fin _ _ (by simp[DG,h1,h2',h3',h4,h5]) (by simp[As])
  ·simp[Ad,h1,h2,h3,h4]; exact fin _ _ (by simp[DG,h1,h2',h3',h4]) (by simp[As])
 by_cases h2:lk=2
 ·by_cases h3:lg=0
  ·by_cases h4:lr=0
   ·by_cases h5:lsn=1
    ·simp[Ad,h2,h3,h4,h5]; exact fin _ _ (by simp[DG,h2,h3,h4,h5]) (by simp[As])
    ·by_cases h6:lsn = -1
     ·simp[Ad,h2,h3,h4,h6]; exact fin _ _ (by simp[DG,h2,h3,h4,h6]) (by simp[As])
     ·simp[Ad,h2,h3,h4,h5,h6]; exact fin _ _ (by simp[DG,h2,h3,h4,h5,h6]) (by simp[As])
   ·simp[Ad,h2,h3,h4]; exact fin _ _ (by simp[DG,h2,h3,h4]) (by simp[As])
  ·simp[Ad,h2,h3]; exact fin _ _ (by simp[DG,h2,h3]) (by simp[As])
 ·simp[Ad,h1,h2]; exact fin _ _ (by simp[DG,h1,h2]) (by simp[As])
set_option maxHeartbeats 1000000 in
theorem dX(f:Int)(ls:List Lt)(h:ls.length≤1000) :
 Cc Tryz.prog 188 [.An (ls.map Ad),.func (.func 172) [] [.ptr 2 0 0]] (Mk f (ls.map Ad)) fun r m=>(∃ n:Int,r=.int .i64 n∧decide (0≤n) = !ls.all (DG f))∧m=Mk f (ls.map Ad):=by
 refine Ih hm Tryz.func188 mE rfl rfl fun K hK=>?_
 have hR:=IA ls;have As:∀ q,Z3 q (ls.map Ad)=ls.map Ad:=fun q=>X7 q _ (R7 ls)
 have hc:=fun l=>dV f (ls.map Ad) As l
 generalize ls.map Ad=rows at *;have hlen:=hR.len;have fin:∀ (n:Int) m,decide (0≤n)=(!ls.all (DG f))→Bq 3 [] [(0,.int .i64 n)] (Mk f rows) [(0,.int .i64 n)] m→M4 3 K (.int .i64 n) m:=
  fun n m hb h=>Z6 (hK (.int .i64 n) (Mk f rows) ⟨⟨n,rfl,hb⟩,rfl⟩) [] h
 clear hK;simp;refine C5 (α:=Nat) (fun i=>[(8,.int .i64 i),(7,.int .i64 ls.length),(1,.func (.func 172) [] [.ptr 2 0 0]),(0,.An rows)]) (fun i=>⟨[(2,.cells 1 [[.ptr 1 0 0]]),(1,XI f rows)],5⟩)
  (fun i=>ls.length - i) (fun i=>i≤ls.length∧(ls.take i).all (DG f)=true) 0 [] (by simp[As,hlen]) (by simp) ?_
 rintro i ⟨hi,hall⟩ N hN;by_cases hlt:i<ls.length
 ·have hrow:=hR.row i hlt;obtain⟨hil,hrow2⟩:=gS.1 hrow;have hw1:=X5 ((i:Int)+1);have hnext:ls.take (i+1)=ls.take i++[at' ls i]:=by
   rw[List.take_add_one,at',List.getD,gE hlt];rfl
  have hin:at' ls i∈ls:=F7 hlt;simp[hlen,hlt,hrow2,Ad];refine V4 (hc (at' ls i)) [(1,1),(2,2)] (by simp[Ad]) (by simp[As]) (by simp) ?_
  rintro r sm ⟨rfl,rfl⟩;cases hok:DG f (at' ls i)with
  | true=>
   simp[As,hw1];exact hN (i+1) [] _ _ (by omega) ⟨by omega,by rw[hnext,List.all_append,hall]; simp[hok]⟩ (by simp[As])
  | false=>
   have hno:ls.all (DG f)=false:=by rw[List.all_eq_false]; exact⟨_,hin,by simp[hok]⟩
   simp[As];exact fin _ _ (by simp[hno]) (by simp[As])
 ·have he:i=ls.length:=by omega
  subst he;rw[List.take_length]at hall;simp[];exact fin _ _ (by simp[hall]) (by simp[As])
theorem dU(f:Int)(ls:List Lt)(h:ls.length≤1000) :
 Cc Tryz.prog 171 [.An (ls.map Ad),.func (.func 172) [] [.ptr 2 0 0]] (Mk f (ls.map Ad)) fun r m=>r=.bool (!ls.all (DG f))∧m=Mk f (ls.map Ad):=by
 refine It hm Tryz.func171 qQ rfl rfl fun K hK=>?_
 have As:∀ q,Z3 q (ls.map Ad)=ls.map Ad:=fun q=>X7 q _ (R7 ls)
 have hc:=dX f ls h;generalize ls.map Ad=rows at *;simp;refine V4 hc [(1,1),(2,2)] (by simp[As]) (by simp[As]) (by simp) ?_
 rintro r sm ⟨⟨n,rfl,hn⟩,rfl⟩;simp[As,hn];exact Z6 hK [] (by simp[As])
theorem dK(f:Int)(ls:List Lt)(h:ls.length≤1000) :
 Cc Tryz.prog 140 [.ptr 1 0 0] (NX f (ls.map Ad)) fun r m=>r=.bool (ls.all (DG f))∧m=NX f (ls.map Ad):=by
 refine It hm Tryz.func140 wO rfl rfl fun K hK=>?_
 have As:∀ q,Z3 q (ls.map Ad)=ls.map Ad:=fun q=>X7 q _ (R7 ls)
 have hc:=dU f ls h;generalize ls.map Ad=rows at *;simp;refine V4 hc [(1,1),(2,2)] (by simp[As]) (by simp[As]) (by simp) ?_
 rintro r sm ⟨rfl,rfl⟩;simp[As];exact Z6 hK [] (by simp[As])
theorem dL(f:Int)(ls:List Lt)(h:ls.length≤1000)(h0:0<ls.length) :
 Cc Tryz.prog 141 [.ptr 1 0 0] (NX f (ls.map Ad)) fun r m=>r=.bool (decide ((at' ls 0).k=1)&&decide (Z5 ls % 2=0))∧m=NX f (ls.map Ad):=by
 refine It hm Tryz.func141 wG rfl rfl fun K hK=>?_
 have hR:=IA ls;have As:∀ q,Z3 q (ls.map Ad)=ls.map Ad:=fun q=>X7 q _ (R7 ls)
 have hc:=dW f ls h;unfold cV at hc;generalize ls.map Ad=rows at *;have hlen:=hR.len;have hrow:=hR.row 0 h0;by_cases hk:(at' ls 0).k=1
 ·simp[hrow,Ad,hk];refine L3 hc ?_;simp[YR];refine Z6 (v0:=.bool (decide ((at' ls 0).k=1)&&decide (Z5 ls % 2=0))) hK [] ?_;simp[As,hk,Z5];exact decide_eq_decide.2 (by omega)
 ·simp[hrow,Ad,hk];refine Z6 (v0:=.bool (decide ((at' ls 0).k=1)&&decide (Z5 ls % 2=0))) hK [] ?_;simp[As,hk]
end Go.Ab
end
section
namespace Go.Ab
open Go Go.AE Go.Proofs
open Go.Plain
attribute [local simp] bN ZP cR Yx Zh Zb bU Zx HG HJ HC HK HL HF YT YS Q4 AI Env.get X6 P3 Ak Ac.at Ac.app Ac.get Y2 Aa.cells Aa.one F1 J4 C0 V9 P7 X4 S7 Ga FG F5 N6 Jk U5 Aj sU sD O0 FT.indep E4 Iz A0 EC Jg U9 T2 W2 Fq GC GB
def R9(x:Nat):List Nat→Nat
 | []=>0
 | y :: r=>if y=x then 0 else 1+R9 x r
theorem LC{x:Nat}:∀ {l:List Nat},x∈l→l[R9 x l]? = some x ∧ ∀ q,q<R9 x l→l[q]? ≠ some x
 | [],h=>by simp at h
 | y :: r,h=>by
  simp only[R9];by_cases hy:y=x
  ·subst hy;simp
  ·rw[iN hy];have hm:x∈r:=by
    rcases mC.1 h with h|h
    ·exact absurd h.symm hy
    ·exact h
   obtain⟨h1,h2⟩:=LC hm;refine⟨by rw[Nat.add_comm,List.getElem?_cons_succ]; exact h1,fun q hq=>?_⟩
   cases q with
   | zero=>simp[hy]
   | succ q=>rw[List.getElem?_cons_succ]; exact h2 q (by omega)
def U2(ls:List Lt)(ax:List Nat)(d:Nat):Nat:=
 if 2*ls.length≤d then
  if d % 2=0 then Q5 ls.length (ax.getD (((d - 2*ls.length) / 2+1) % ax.length) 0) (!W4 ls (ax.getD (((d - 2*ls.length) / 2+1) % ax.length) 0))
  else Q5 ls.length (ax.getD ((d - 2*ls.length) / 2) 0) (W4 ls (ax.getD ((d - 2*ls.length) / 2) 0))
 else
  let v:=if d % 2=0 then (d / 2+1) % ls.length else d / 2
  if (at' ls v).k=2 then Q5 ls.length (Q9 ls v ls.length 0) ((d % 2 == 0) == ((at' ls v).o == ((at' ls v).s == 1)))
  else if W4 ls v=(d % 2 == 0)then 2*ls.length+2*R9 v ax else 2*ls.length+2*((R9 v ax+ax.length - 1) % ax.length)+1
end Go.Ab
end
section
namespace Go.AE
open Go.RowKit
def MK(n k:Nat)(get:Nat→Option Ag)(v:Aa)(lh:Option (Nat×Nat)):Option (Aa×Nat):=
 match k,v,lh with
 | 1,.ptr b i j,some (l,h)=>match get b with
  | some (.cells _ els)=>match EG get [b] (.sl b i 1)with
   | .An [row]=>if i<els.length∧j+n≤row.length∧h≤n∧l≤h then some (.An (((row.drop (j+l)).take (h - l)).map fun y=>[y]),b)else none
   | _=>none
  | _=>none
 | _,_,_=>none
section
variable {P:Program} {W:Ap} {Φ:Ao} {ρ:AD} {w:World} {m:Mem} {a:Act} {t:List Aa}
theorem Z81{o:Oper}{n k:Nat}{x:Ah}{lo hi:Option Ah}(ho:Q0 P o=.Cv n k x lo hi):∃ ty e x0 lo0 hi0,o.op=.slice ty x0 lo0 hi0 none∧P.underlying ty=some (.array n e)∧O8 P e=some k∧Y7 x0=some x∧H8 lo0=some lo∧H8 hi0=some hi:=by
 unfold Q0 at ho;cases hc:Gu P o with
 | none=>simp[hc]at ho
 | some op=>
  simp only[hc,Option.getD_some]at ho;subst ho;unfold Gu at hc;split at hc<;>first|(cases hc; done)|skip
  all_goals first
   | (simp only[mO]at hc; obtain⟨_,_,hc⟩:=hc; cases hc; done)
   | (split at hc<;>first|(cases hc; done)|skip
      all_goals (split at hc<;>first|(cases hc; done)|skip)
      rename_i ty x0 lo0 hi0 mx0 h0 _ _ _ _ _ n0 e0 x1 l1 h1 hu hx hl hh hm _ k0 hk;cases hc;have Fm:mx0=none:=by
       cases mx0 with
       | none=>rfl
       | some z=>simp only[H8]at hm; cases hz:Y7 z<;>simp[hz]at hm
      subst Fm;exact⟨ty,_,x0,lo0,hi0,h0,hu,hk,hx,hl,hh⟩)
   | skip
  all_goals (try unfold Ix at hc)
  all_goals (repeat' (split at hc<;>first|(cases hc; done)|(simp only[mO]at hc; obtain⟨_,_,hc⟩:=hc; cases hc; done)|skip))
  all_goals (first|(cases hc; done)|skip)
theorem Z41{K:Act→World→Prop}{Q:Exit→Act→World→Prop}(ht:RL Φ ρ t a.tmps)(hr:Rel W Φ ρ m w)(o:Oper){n k:Nat}{x:Ah}{lo hi:Option Ah}(ho:Q0 P o=.Cv n k x lo hi){v:Aa}{b:Nat}
 (h:MK n k m.get (ev t x) (M9 t n n lo hi)=some (v,b))
 (hK:∀ Am u,Ext Φ ρ Am ρ→Rel W Am ρ (m.del b) w→R Am ρ v u→K (a.put o.dst u) w):o.wp P a w K Q:=by
 obtain⟨ty,e,x0,lo0,hi0,hop,hu,hk,hx,hl,hh⟩:=Z81 ho;have hv:=U8 ht hx;have hlo:=QZ ht hl;have hhi:=QZ ht hh;obtain⟨inf,hinf,hsz⟩:=LI hk;unfold MK at h;split at h
 ·rename_i b0 i j l hi' hev hbd;split at h<;>first|(cases h; done)|skip
  rename_i kk els Oa;split at h<;>first|(cases h; done)|skip
  rename_i row hfz;split at h<;>first|(cases h; done)|skip
  rename_i hc;obtain⟨hc0,hc1,hc2,hc3⟩:=hc;injection h with h
  injection h with h1 h2
  subst h1;subst h2;obtain⟨Bp,hE,f1,f2,f3,f4⟩:=Sn [b0] hr;have hb:=(QC (P:=P) (w:=w) (cap:=n) (b:=false) hlo hhi hbd (lR _)).1;rw[hev]at hv;obtain⟨lc,ob,q1,q2,q3,q4,q5⟩:=hr.live b0 _ Oa;have hbn:lc.sh+els.length≤lc.n:=by
   cases q5 with
   | cells _ _ _ c e hk hn hl hr h1=>exact hl
  have hR:=f4 _ _ (R.sl (Φ:=Φ) (ρ:=ρ) b0 i 1 (some ⟨lc.blk,(lc.sh+i)*lc.k,none⟩) (lc.n - (lc.sh+i)) lc q1 (by omega) (by omega) (fun _=>rfl) rfl)
  rw[hfz]at hR;generalize hvv:a.eval x0=vv at hv;cases hv with
  | ptr _ _ _ l2 hl2=>
  rw[q1]at hl2;injection hl2 with hl2
  subst hl2;cases hR with
  | An _ B o' k cap c f hne hcap hB hk' CM As=>
   have hrow:[row][0]? = some row:=rfl;have hrun:(Instr.sliceAt ty (.pointer (some ⟨lc.blk,(lc.sh+i)*lc.k+j,none⟩)) (lo0.map a.eval) (hi0.map a.eval) none).run P w=.ok (.slice (some (if n=l then ⟨lc.blk,(lc.sh+i)*lc.k+j,none⟩ else (⟨lc.blk,(lc.sh+i)*lc.k+j,none⟩:Addr).add (l*1))) (hi' - l) (n - l)) w:=by
    simp only[Instr.sliceAt,Instr.sureAddr,Sem.run_bind,V1 hu,Result.andThen_ok,Sem.run_pure,hb,G8 hinf,hsz]
   have e0:execOp a.eval o=(do pure (Next.value (← Instr.sliceAt ty (a.eval x0) (lo0.map a.eval) (hi0.map a.eval) none))):=by unfold execOp; rw[hop]; rfl
   have hrun2:(execOp a.eval o).run P w=.ok (Next.value (.slice (some (if n=l then ⟨lc.blk,(lc.sh+i)*lc.k+j,none⟩ else (⟨lc.blk,(lc.sh+i)*lc.k+j,none⟩:Addr).add (l*1))) (hi' - l) (n - l))) w:=by
    rw[e0,hvv];simp only[Sem.run_bind,hrun,Result.andThen_ok,Sem.run_pure]
   unfold Oper.wp;rw[hrun2];have hrl:row.length=k:=hk' _ _ hrow;have hlen:(((row.drop (j+l)).take (hi' - l)).map fun y=>[y]).length=hi' - l:=by simp; omega
   refine hK Bp _ hE ⟨hr.base,f1,fun c x hx=>?_,fun c c' x x' l l' g1 g2=>?_,hr.fresh,f2⟩ ?_
   ·simp only[Mem.Bo]at hx;split at hx
    ·cases hx
    ·rename_i hne;obtain⟨l,o,g1,g2,g3,g4,g5⟩:=hr.live c x hx;exact⟨l,o,g1,g2,f3 c x l hx g1 (by simp[X3,hne]),g4,g5.ext hE⟩
   ·simp only[Mem.Bo]at g1 g2;split at g1<;>first|(cases g1; done)|skip
    split at g2<;>first|(cases g2; done)|skip
    exact hr.inj _ _ _ _ _ _ g1 g2
   ·by_cases hz:hi'=l
    ·have e1:(((row.drop (j+l)).take (hi' - l)).map fun y=>[y])=[]:=List.eq_nil_of_length_eq_zero (by rw[hlen]; omega)
     rw[e1,show hi' - l=0 by omega]
     refine .CQ _ _ fun _=>?_
     split
     ·exact⟨_,_,rfl⟩
     ·exact⟨lc.blk,_,by rw[Addr.Ba]⟩
    ·rw[iN (by omega),Addr.Ba]
     have hget:∀ (p:Nat) (r:List Aa),(((row.drop (j+l)).take (hi' - l)).map fun y=>[y])[p]? = some r → ∃ y,row[j+l+p]? = some y∧r=[y]:=fun p r hp=>by
      rw[gM]at hp;cases hq:((row.drop (j+l)).take (hi' - l))[p]? with
      | none=>rw[hq]at hp; cases hp
      | some y=>
       rw[hq]at hp;injection hp with hp
       rw[List.getElem?_take]at hq;split at hq
       ·rw[List.getElem?_drop]at hq;exact⟨y,hq,hp.symm⟩
       ·cases hq
     suffices key:R Bp ρ (.An (((row.drop (j+l)).take (hi' - l)).map fun y=>[y])) (.slice (some ⟨lc.blk,(lc.sh+i)*lc.k+j+l*1,none⟩) (((row.drop (j+l)).take (hi' - l)).map fun y=>[y]).length (n - l)) by
      rw[hlen]at key;exact key
     refine .An _ lc.blk ((lc.sh+i)*lc.k+j+l*1) 1 (n - l) c (fun p q=>f 0 (j+l+p)) (fun e=>by have:=congrArg List.length e; rw[hlen]at this; simp at this; omega) (by rw[hlen]; omega) hB (fun p r hp=>?_) (fun p r q y hp hq=>?_) (fun p r q y hp hq=>?_)
     ·obtain⟨y,_,rfl⟩:=hget p r hp;rfl
     ·obtain⟨y',h3,rfl⟩:=hget p r hp;cases q with
      | succ q=>simp at hq
      | zero=>
       obtain⟨k1,k2⟩:=CM 0 row (j+l+p) y' hrow h3;refine⟨?_,k2⟩;rw[← k1]
       congr 1
       omega
     ·obtain⟨y',h3,rfl⟩:=hget p r hp;cases q with
      | succ q=>simp at hq
      | zero=>
       simp only[List.getElem?_cons_zero,oI]at hq;subst hq;exact As 0 row (j+l+p) y' hrow h3
 ·cases h
def G2(P:Program)(base:Nat):List Af→Nat→(AO→Prop)→List Aa→Mem→Prop
 | [],_,K,t,m=>K ⟨t,m⟩
 | o :: r,i,K,t,m=>
  match T9 t o.guard with
  | some false=>G2 P base r (i+1) K (put t o.dst Aj) m
  | some true=>
   match o.op with
   | .call f xs=>match callee t f xs with
    | some (g,args)=>Az P g args m [base+i] fun v m'=>G2 P base r (i+1) K (put t o.dst v) m'
    | none=>False
   | .Cv n k x lo hi=>match MK n k m.get (ev t x) (M9 t n n lo hi)with
    | some (v,b)=>G2 P base r (i+1) K (put t o.dst v) (m.del b)
    | none=>False
   | op=>match Ae (base+i) t m op with
    | some (v,m')=>G2 P base r (i+1) K (put t o.dst v) m'
    | none=>False
  | none=>False
theorem zB{base i:Nat}{b:Af}{rest:List Af}{K:AO→Prop}{t:List Aa}{m:Mem}(h:G2 P base (b :: rest) i K t m) :
 (T9 t b.guard=some false∧G2 P base rest (i+1) K (put t b.dst Aj) m) ∨
 (T9 t b.guard=some true∧((∃ f xs g args,b.op=.call f xs∧callee t f xs=some (g,args)∧Az P g args m [base+i] fun v m'=>G2 P base rest (i+1) K (put t b.dst v) m') ∨
   (∃ n k x lo hi v c,b.op=.Cv n k x lo hi∧MK n k m.get (ev t x) (M9 t n n lo hi)=some (v,c)∧G2 P base rest (i+1) K (put t b.dst v) (m.del c)) ∨
   (∃ v m',Ae (base+i) t m b.op=some (v,m')∧G2 P base rest (i+1) K (put t b.dst v) m'))):=by
 simp only[G2]at h;cases hw:T9 t b.guard with
 | none=>simp[hw]at h
 | some q=>
  cases q with
  | false=>simp only[hw]at h; exact .inl ⟨rfl,h⟩
  | true=>
   simp only[hw]at h;refine .inr ⟨rfl,?_⟩;have other:∀ op,b.op=op→(match Ae (base+i) t m op with|some (v,m')=>G2 P base rest (i+1) K (put t b.dst v) m'|none=>False) →
    ∃ v m',Ae (base+i) t m op=some (v,m')∧G2 P base rest (i+1) K (put t b.dst v) m':=by
    intro op _ hh;cases hs:Ae (base+i) t m op with
    | none=>simp[hs]at hh
    | some r=>obtain ⟨v,m'⟩:=r; simp only[hs]at hh; exact⟨v,m',rfl,hh⟩
   cases hop:b.op with
   | call f xs=>
    simp only[hop]at h;cases hc:callee t f xs with
    | none=>simp[hc]at h
    | some r=>
     obtain⟨g,args⟩:=r;simp only[hc]at h;exact .inl ⟨f,xs,g,args,rfl,hc,h⟩
   | Cv n k x lo hi=>
    simp only[hop]at h;cases hc:MK n k m.get (ev t x) (M9 t n n lo hi)with
    | none=>simp[hc]at h
    | some r=>
     obtain⟨v,c⟩:=r;simp only[hc]at h;exact .inr (.inl ⟨n,k,x,lo,hi,v,c,rfl,hc,h⟩)
   | _=>rw[hop]at h; exact .inr (.inr (other _ hop h))
theorem Tg(W:Ap)(base:Nat)(n0:Nat)(ops:Array Oper)(Q:Exit→AO→Prop)(Ed:Ao)(Da:AD)(hb:n0≤base) :
 ∀(l:List Oper) (Ii:List Af) (i:Nat) (t:List Aa) (m:Mem) (Φ:Ao) (ρ:AD) (a:Act) (w:World),
  Ii.length=l.length→(∀(j:Nat) (o:Oper) (b:Af),l[j]? = some o→Ii[j]? = some b→b.dst=o.dst∧b.op=Q0 P o∧A3 ops o.guard=some b.guard) →
  G2 P base Ii i (Q .normal) t m→Rel W Φ ρ m w→RL Φ ρ t a.tmps→a.defers=[]→Ext Ed Da Φ ρ→Bl n0 Da ρ→(∀ j,i≤j→j<i+Ii.length→ρ (base+j)=none)→base+i+Ii.length≤m.next→n0≤m.next →
  wpList P ops (lift W Ed Da n0 Q) l a w
 | [],[],i,t,m,Φ,ρ,a,w,_,_,h,hr,ht,hd,he,hk,_,_,hn=>⟨⟨t,m⟩,Φ,ρ,he,hk,hn,hr,ht,hd,h⟩
 | [],_ :: _,_,_,_,_,_,_,_,hl,_,_,_,_,_,_,_,_,_,_=>by simp at hl
 | _ :: _,[],_,_,_,_,_,_,_,hl,_,_,_,_,_,_,_,_,_,_=>by simp at hl
 | o :: l,b :: Ii,i,t,m,Φ,ρ,a,w,hl,hg,h,hr,ht,hd,he,hk,hfree,Dz,hn=>by
  obtain⟨e1,e2,e3⟩:=hg 0 o b rfl rfl;have hg':∀ (j:Nat) (o:Oper) (b:Af),l[j]? = some o→Ii[j]? = some b→b.dst=o.dst∧b.op=Q0 P o∧A3 ops o.guard=some b.guard:=fun j o b ho hb=>hg (j+1) o b (by simpa using ho) (by simpa using hb)
  have hl':Ii.length=l.length:=by simpa using hl
  simp only[lC]at Dz hfree;have hlt:base+i<m.next:=by omega
  have hni:ρ (base+i)=none:=hfree i (lR _) (by omega)
  unfold wpList;rcases zB h with⟨hw,h'⟩|⟨hw,h'⟩
  ·rw[Ly ht e3 hw,iN (by simp)]
   rw[← e1];exact Tg W base n0 ops Q Ed Da hb l Ii (i+1) _ m Φ ρ _ w hl' hg' h' hr (ht.put b.dst (LP Φ ρ)) (by rw[Iv]; exact hd) he hk (fun j h1 h2=>hfree j (by omega) (by omega)) (by omega) hn
  ·rw[Ly ht e3 hw,iP rfl];refine .inl ?_;rcases h' with⟨f,xs,g,args,hop,Bf,hA⟩|⟨n,k,x,lo,hi,v,c,hop,hs,h'⟩|⟨v,m',hs,h'⟩
   ·refine cM ht hr hni hlt o (by rw[← e2]; exact hop) Bf hA fun Am ρ' x m' u w' hE hfr hr' hx hnx' hW=>?_
    rw[← e1];exact Tg W base n0 ops Q Ed Da hb l Ii (i+1) _ m' Am ρ' _ w' hl' hg' hW hr' ((ht.ext hE).put b.dst hx) (by rw[Iv]; exact hd) (he.trans hE) (fun c hc h0=>hfr c (by omega) (by omega) (hk c hc h0))
     (fun j h1 h2=>hfr _ (by omega) (by omega) (hfree j (by omega) (by omega))) (by omega) (by omega)
   ·refine Z41 ht hr o (by rw[← e2]; exact hop) hs fun Am u hE hr' hx=>?_
    rw[← e1];exact Tg W base n0 ops Q Ed Da hb l Ii (i+1) _ _ Am ρ _ w hl' hg' h' hr' ((ht.ext hE).put b.dst hx) (by rw[Iv]; exact hd) (he.trans hE) hk
     (fun j h1 h2=>hfree j (by omega) (by omega)) (by rw[Mem.Gn]; omega) (by rw[Mem.Gn]; exact hn)
   ·have hnx':=YE hs;rw[e2]at hs;refine Wx ht hr hni hlt o hs fun Am ρ' u w' hE hfr hr' hx=>?_
    rw[← e1];exact Tg W base n0 ops Q Ed Da hb l Ii (i+1) _ m' Am ρ' _ w' hl' hg' h' hr' ((ht.ext hE).put b.dst hx) (by rw[Iv]; exact hd) (he.trans hE) (fun c hc h0=>hfr c (by omega) (hk c hc h0))
     (fun j h1 h2=>hfr _ (by omega) (hfree j (by omega) (by omega))) (by rw[hnx']; omega) (by rw[hnx']; exact hn)
theorem uw{id:Nat}{ops:Array Oper}{os:List Af}{Q:Exit→AO→Prop}{σ:AO}(hc:I1 P ops ops.toList=some os)(h:G2 P σ.m.next os 0 (Q .normal) σ.t (σ.m.at (σ.m.next+os.length))):Ip P (.region id ops false) Q σ:=by
 intro W Φ ρ a w hr ht hd;obtain⟨h1,h2⟩:=Tk P ops _ _ hc;refine wp_region_list (Tg W σ.m.next σ.m.next ops Q Φ ρ (lR _) ops.toList os 0 σ.t _ Φ ρ a w h1 h2 h (hr.at_ (by omega)) ht hd (.refl _ _) (.refl _ _) ?_ (by simp) (by simp))
 intro j _ _;cases hq:ρ (σ.m.next+j)with
 | none=>rfl
 | some l=>have:=hr.fresh _ _ hq; omega
def Sk(n k:Nat)(get:Nat→Option Ag)(v:Aa)(lh:Option (Nat×Nat)):Option (Aa×List (Nat×Option Ag)):=
 match MK n k get v lh with
 | some (v,b)=>some (v,[(b,none)])
 | none=>none
def C4(P:Program)(n base:Nat):List Af→Nat→(Env→Ac→Prop)→Env→Ac→Prop
 | [],_,K,e,m=>K e m
 | o :: r,i,K,e,m=>HS (Q4 n e o.guard)
  (match o.op with
  | .call f xs=>Mi (U5 n e f xs) fun g args=>SC P g args m (base+i) fun v m'=>C4 P n base r (i+1) K (X6 e o.dst v) m'
  | .Cv nn k x lo hi=>Gy (Sk nn k m.get (AI n e x) (I2 (AI n e) nn nn lo hi)) fun v d=>C4 P n base r (i+1) K (X6 e o.dst v) (m.app d)
  | op=>Gy (Ak (base+i) (AI n e) m.get op) fun v d=>C4 P n base r (i+1) K (X6 e o.dst v) (m.app d))
  (C4 P n base r (i+1) K (X6 e o.dst Aj) m)
theorem SO{n base:Nat}{K:Env→Ac→Prop}{K':AO→Prop}(hk:∀ e m,K e m→K' ⟨Be n e,m.mem⟩):∀ (ops:List Af) (i:Nat) (e:Env) (m:Ac),C4 P n base ops i K e m→G2 P base ops i K' (Be n e) m.mem
 | [],_,_,_,h=>hk _ _ h
 | o :: r,i,e,m,h=>by
  simp only[C4]at h;simp only[G2,QK];cases hw:Q4 n e o.guard with
  | none=>rw[hw]at h; exact h
  | some q=>
   rw[hw]at h;cases q with
   | false=>
    simp only[G1];exact SO hk r _ _ _ h
   | true=>
    simp only[HS]at h;simp only;have other:∀ op,Gy (Ak (base+i) (AI n e) m.get op) (fun v d=>C4 P n base r (i+1) K (X6 e o.dst v) (m.app d)) →
     (match Ae (base+i) (Be n e) m.mem op with|some (v,m')=>G2 P base r (i+1) K' (put (Be n e) o.dst v) m'|none=>False):=by
     intro op hh;cases hs:Ak (base+i) (AI n e) m.get op with
     | none=>rw[hs]at hh; exact hh.elim
     | some vd=>
      obtain⟨v,d⟩:=vd;rw[hs]at hh;have:=Ow (m:=m.mem) (t:=Be n e) (id:=base+i) (op:=op) (v:=v) (d:=d) (by rw[G5]; exact hs)
      rw[this];simp only[G1];rw[← Ac.BW];exact SO hk r _ _ _ hh
    cases hop:o.op with
    | call f xs=>
     simp only[hop]at h;simp only[RF];cases hc:U5 n e f xs with
     | none=>rw[hc]at h; exact h
     | some ga=>
      obtain⟨g,args⟩:=ga;rw[hc]at h;simp only[Mi]at h;simp only[G1];refine Az.mono h fun v m'' hh=>?_
      obtain⟨sm,rfl,hh⟩:=hh;exact SO hk r _ _ _ hh
    | Cv nn k x lo hi=>
     simp only[hop]at h;simp only[G5,G1];have e1:I2 (AI n e) nn nn lo hi=M9 (Be n e) nn nn lo hi:=by rw[tJ,G5]
     rw[e1]at h;unfold Sk at h;have e2:m.mem.get=m.get:=rfl;rw[e2];cases hs:MK nn k m.get (AI n e x) (M9 (Be n e) nn nn lo hi)with
     | none=>rw[hs]at h; exact h.elim
     | some vd=>
      obtain⟨v,b⟩:=vd;rw[hs]at h;have h':=SO hk r _ _ _ h;rw[Ac.BW]at h';exact h'
    | _=>rw[hop]at h; exact other _ h
def E5:AQ→Bool
 | .Cv ..=>true
 | _=>false
def Gk:Af→Bool
 | ⟨_,op,_,_⟩=>E5 op
variable {n n0:Nat}
theorem qp{id:Nat}{ops:Array Oper}{os:List Af}{Q:Exit→Env→Ac→Prop}{e:Env}{m:Ac}(hc:I1 P ops ops.toList=some os)
 (h0:C4 P n m.next os 0 (Q .normal) e (m.at (m.next+os.length))):Hp P n n0 (.region id ops false) Q e m:=by
 have h1:G2 P m.next os 0 (D0 n Q .normal) (Be n e) (m.at (m.next+os.length)).mem:=SO (fun e m hk=>⟨e,m,rfl,hk⟩) os 0 e _ h0
 intro W Φ ρ a w hn hr ht hd;have h2:Ip P (.region id ops false) (D0 n Q) ⟨Be n e,m.mem⟩:=uw hc h1;refine wp_mono (h2 W Φ ρ a w hr ht hd) fun x a' w' hl=>?_
 obtain⟨σ,Am,ρ',g1,g2,g3,g4,g5,g6,g7⟩:=hl;have BZ:∀ b,b<n0→ρ' b=ρ b:=fun b hb=>by
  cases hq:ρ b with
  | none=>exact g2 b (Nat.lt_of_lt_of_le hb hn) hq
  | some l=>exact g1.Fy b l hq
 have Dz:m.next≤σ.m.next:=g3;cases x<;>simp only[D0]at g7<;>first
  | exact g7.elim
  | (obtain ⟨e',m',rfl,hq⟩:=g7
     exact⟨e',m',Am,ρ',g1.AX,BZ,Nat.le_trans hn Dz,g4,g5,g6,fun l hl=>(by cases hl),hq⟩)
variable {e:Env} {m:Ac} {base:Nat} {K:Env→Ac→Prop}
theorem B7{i:Nat}:C4 P n base [] i K e m=K e m:=propext Iff.rfl
theorem C3{i:Nat}(d:Option Nat)(op:AQ)(un:List Nat)(r:List Af):C4 P n base (⟨d,op,none,un⟩ :: r) i K e m=match op with
 | .call f xs=>Mi (U5 n e f xs) fun g args=>SC P g args m (base+i) fun v m'=>C4 P n base r (i+1) K (X6 e d v) m'
 | .Cv nn k x lo hi=>Gy (Sk nn k m.get (AI n e x) (I2 (AI n e) nn nn lo hi)) fun v d'=>C4 P n base r (i+1) K (X6 e d v) (m.app d')
 | op=>Gy (Ak (base+i) (AI n e) m.get op) fun v d'=>C4 P n base r (i+1) K (X6 e d v) (m.app d'):=by
 cases op<;>rfl
end
end Go.AE
end
