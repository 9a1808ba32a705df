/- Part 16 of the proof: Ra, Lb. -/
import Derived.Test.YtipeejpafgnjdaaGreatDoorH13
import Derived.Test.YtipeejpafgnjdaaGreatDoorH15
set_option linter.all false
section
namespace Go.Known
open Go Go.AE Go.Proofs
open Go.Plain
attribute [local simp] Zbv Zdd Zcl Zcs Zch Zcw Zby Zcv Zbp P1 P3 Q7 P6 Q9 P4 Zdx Zbu Zbi Zdw Zd1 Zb8 Zd2 Zbn Zb2 Zdt Zbt Zbo Zdf Zdj Zco Zbx Zd4 Zdg Zdp Zde Zbj Zcu Zdk Zcf Zcy Zc2 Zbf Zc5 Zcq Zb3 Zdz Zdb Zc9 Zc1 Zd3 Zce Zc6 Zcb Zc0 Zbh Zda Zb1 Zd5 Zd0 Zbl Zci Zdy Zc8 Zdc Zdq Zcm Zcz Za2 Zc4 Zdl Env.get W9 SMem.at SMem.app SMem.get Z8 R6 AVal.cells AVal.one T6 Q1 Zds Zb7 Zbw Zb9 Zbm Zbg Zcx Zbs Zcr Zdn Zdh Zct Zdr unA R5 U8 I4 M8 X9 aundef Zdi Zdm Zbk Zbz Zc3 Q3 V3 M6 M5 N9 I7 S1 J3 SubR SubRE SubRB InjK InjA qOf Zap AVal.ren Q0 Z3 ABlk.ren I6 Zaa P9 R2 P7 X4 L9 S8 M2
abbrev dV0(f:Int)(rows:List (List AVal)):ABlk:=.cells 7 [[.int .i64 f,.imm rows,.nilSl,.nilSl,.nilSl,.nilMap,.nilSl]]
abbrev dM1(f:Int)(rows:List (List AVal)):SMem:=⟨[(1,dV0 f rows)],2⟩
abbrev dM2(f:Int)(rows:List (List AVal)):SMem:=⟨[(2,.cells 1 [[.ptr 1 0 0]]),(1,dV0 f rows)],3⟩
set_option maxHeartbeats 1000000 in
theorem c167(f:Int)(rows:List (List AVal))(hrr:∀ q,Z3 q rows=rows)(l:Lt) :
 Ctr Tryz.prog 199 [.agg (rowL l),.ptr 2 0 0] (dM2 f rows) fun r m=>r=.bool (!okC f l)∧m=dM2 f rows:=by
 refine A3 hm Tryz.func199 Zs5 rfl rfl fun K hK=>?_
 rcases l with⟨lk,lg,lr,li,lsn,lo⟩
 have fin:∀ b m,(!okC f ⟨lk,lg,lr,li,lsn,lo⟩)=b→SubR 3 [] [(0,.bool b)] (dM2 f rows) [(0,.bool b)] m→S4 3 K (.bool b) m:=
  fun b m hb h=>by subst hb; exact Y1 hK [] h
 clear hK;by_cases h1:lk=1
 ·by_cases h2:lg<0
  ·have h2':¬0≤lg:=by omega
   simp[rowL,h1,h2,h2']; exact fin _ _ (by simp[okC,h1,h2,h2']) (by simp[hrr])
  have h2':0≤lg:=by omega
  by_cases h3:f<lg
  ·have h3':¬lg≤f:=by omega
   simp[rowL,h1,h2,h2',h3,h3']; exact fin _ _ (by simp[okC,h1,h2,h2',h3,h3']) (by simp[hrr])
  have h3':lg≤f:=by omega
  by_cases h4:li=0
  ·by_cases h5:lsn=0
   ·cases lo with
    | true=>
     simp[rowL,h1,h2,h2',h3,h3',h4,h5]; exact fin _ _ (by simp[okC,h1,h2,h2',h3,h3',h4,h5]) (by simp[hrr])
    | false=>
     simp[rowL,h1,h2,h2',h3,h3',h4,h5]; exact fin _ _ (by simp[okC,h1,h2,h2',h3,h3',h4,h5]) (by simp[hrr])
   ·simp[rowL,h1,h2,h2',h3,h3',h4,h5]; exact fin _ _ (by simp[okC,h1,h2,h2',h3,h3',h4,h5]) (by simp[hrr])
  ·simp[rowL,h1,h2,h2',h3,h3',h4]; exact fin _ _ (by simp[okC,h1,h2,h2',h3,h3',h4]) (by simp[hrr])
 by_cases h2:lk=2
 ·by_cases h3:lg=0
  ·by_cases h4:lr=0
   ·by_cases h5:lsn=1
    ·simp[rowL,h1,h2,h3,h4,h5]; exact fin _ _ (by simp[okC,h1,h2,h3,h4,h5]) (by simp[hrr])
    ·by_cases h6:lsn = -1
     ·simp[rowL,h1,h2,h3,h4,h5,h6]; exact fin _ _ (by simp[okC,h1,h2,h3,h4,h5,h6]) (by simp[hrr])
     ·simp[rowL,h1,h2,h3,h4,h5,h6]; exact fin _ _ (by simp[okC,h1,h2,h3,h4,h5,h6]) (by simp[hrr])
   ·simp[rowL,h1,h2,h3,h4]; exact fin _ _ (by simp[okC,h1,h2,h3,h4]) (by simp[hrr])
  ·simp[rowL,h1,h2,h3]; exact fin _ _ (by simp[okC,h1,h2,h3]) (by simp[hrr])
 ·simp[rowL,h1,h2]; exact fin _ _ (by simp[okC,h1,h2]) (by simp[hrr])
set_option maxHeartbeats 1000000 in
theorem c183(f:Int)(ls:List Lt)(h:ls.length≤1000) :
 Ctr Tryz.prog 226 [.imm (ls.map rowL),.func (.func 199) [] [.ptr 2 0 0]] (dM2 f (ls.map rowL)) fun r m=>(∃ n:Int,r=.int .i64 n∧decide (0≤n) = !ls.all (okC f))∧m=dM2 f (ls.map rowL):=by
 refine J7 hm Tryz.func226 Zr1 rfl rfl fun K hK=>?_
 have hR:=N8 ls;have hrr:∀ q,Z3 q (ls.map rowL)=ls.map rowL:=fun q=>Y6 q _ (Z9 ls)
 have hc:=fun l=>c167 f (ls.map rowL) hrr l
 generalize ls.map rowL=rows at *;have hlen:=hR.len;have fin:∀ (n:Int) m,decide (0≤n)=(!ls.all (okC f))→SubR 3 [] [(0,.int .i64 n)] (dM2 f rows) [(0,.int .i64 n)] m→S4 3 K (.int .i64 n) m:=
  fun n m hb h=>Y1 (hK (.int .i64 n) (dM2 f rows) ⟨⟨n,rfl,hb⟩,rfl⟩) [] h
 clear hK;simp;refine T1 (α:=Nat) (fun i=>[(8,.int .i64 i),(7,.int .i64 ls.length),(1,.func (.func 199) [] [.ptr 2 0 0]),(0,.imm rows)]) (fun i=>⟨[(2,.cells 1 [[.ptr 1 0 0]]),(1,dV0 f rows)],5⟩)
  (fun i=>ls.length - i) (fun i=>i≤ls.length∧(ls.take i).all (okC f)=true) 0 [] (by simp[hrr,hlen]) (by simp) ?_
 rintro i ⟨hi,hall⟩ N hN;by_cases hlt:i<ls.length
 ·have hrow:=hR.row i hlt;obtain⟨hil,hrow2⟩:=gS.1 hrow;have hw1:IntKind.i64.wrap ((i:Int)+1)=(i:Int)+1:=Z6 (by omega) (by omega)
  have hnext:ls.take (i+1)=ls.take i++[at' ls i]:=by
   rw[List.take_add_one,at',List.getD,gE hlt];rfl
  have hin:at' ls i∈ls:=R9 hlt;simp[hlen,hlt,hrow,hrow2,rowL];refine U6 (hc (at' ls i)) [(1,1),(2,2)] (by simp[rowL]) (by simp[hrr]) (by simp) ?_
  rintro r sm ⟨rfl,rfl⟩;cases hok:okC f (at' ls i)with
  | true=>
   simp[hrr,hw1];exact hN (i+1) [] _ _ (by omega) ⟨by omega,by rw[hnext,List.all_append,hall]; simp[hok]⟩ (by simp[hrr,hlen])
  | false=>
   have hno:ls.all (okC f)=false:=by rw[List.all_eq_false]; exact⟨_,hin,by simp[hok]⟩
   simp[hrr];exact fin _ _ (by simp[hno]) (by simp[hrr])
 ·have he:i=ls.length:=by omega
  subst he;rw[List.take_length]at hall;simp[hlen];exact fin _ _ (by simp[hall]) (by simp[hrr])
theorem c166(f:Int)(ls:List Lt)(h:ls.length≤1000) :
 Ctr Tryz.prog 198 [.imm (ls.map rowL),.func (.func 199) [] [.ptr 2 0 0]] (dM2 f (ls.map rowL)) fun r m=>r=.bool (!ls.all (okC f))∧m=dM2 f (ls.map rowL):=by
 refine A3 hm Tryz.func198 Zsr rfl rfl fun K hK=>?_
 have hrr:∀ q,Z3 q (ls.map rowL)=ls.map rowL:=fun q=>Y6 q _ (Z9 ls)
 have hc:=c183 f ls h;generalize ls.map rowL=rows at *;simp;refine U6 hc [(1,1),(2,2)] (by simp[hrr]) (by simp[hrr]) (by simp) ?_
 rintro r sm ⟨⟨n,rfl,hn⟩,rfl⟩;simp[hrr,hn];exact Y1 hK [] (by simp[hrr])
theorem c131(f:Int)(ls:List Lt)(h:ls.length≤1000) :
 Ctr Tryz.prog 167 [.ptr 1 0 0] (dM1 f (ls.map rowL)) fun r m=>r=.bool (ls.all (okC f))∧m=dM1 f (ls.map rowL):=by
 refine A3 hm Tryz.func167 Zvr rfl rfl fun K hK=>?_
 have hrr:∀ q,Z3 q (ls.map rowL)=ls.map rowL:=fun q=>Y6 q _ (Z9 ls)
 have hc:=c166 f ls h;generalize ls.map rowL=rows at *;simp;refine U6 hc [(1,1),(2,2)] (by simp[hrr]) (by simp[hrr]) (by simp) ?_
 rintro r sm ⟨rfl,rfl⟩;simp[hrr];exact Y1 hK [] (by simp[hrr])
theorem c132(f:Int)(ls:List Lt)(h:ls.length≤1000)(h0:0<ls.length) :
 Ctr Tryz.prog 168 [.ptr 1 0 0] (dM1 f (ls.map rowL)) fun r m=>r=.bool (decide ((at' ls 0).k=1)&&decide (Z1 ls % 2=0))∧m=dM1 f (ls.map rowL):=by
 refine A3 hm Tryz.func168 Zyc rfl rfl fun K hK=>?_
 have hR:=N8 ls;have hrr:∀ q,Z3 q (ls.map rowL)=ls.map rowL:=fun q=>Y6 q _ (Z9 ls)
 have hc:=c168 f ls h;unfold cV at hc;generalize ls.map rowL=rows at *;have hlen:=hR.len;have hrow:=hR.row 0 h0;by_cases hk:(at' ls 0).k=1
 ·simp[hlen,hrow,rowL,hk];refine W3 hc ?_;simp[Zfa];refine Y1 (v0:=.bool (decide ((at' ls 0).k=1)&&decide (Z1 ls % 2=0))) hK [] ?_;simp[hrr,hk,Z1];exact decide_eq_decide.2 (by omega)
 ·simp[hlen,hrow,rowL,hk];refine Y1 (v0:=.bool (decide ((at' ls 0).k=1)&&decide (Z1 ls % 2=0))) hK [] ?_;simp[hrr,hk]
end Go.Known
end
section
namespace Go.Known
open Go Go.AE Go.Proofs
open Go.Plain
attribute [local simp] F5 F3 G5 F4 F9 F8 F1 G9 P1 P3 Q7 P6 Q9 P4 G7 F0 V2 evE Env.get Y4 W9 stepD SMem.at SMem.app SMem.get Z8 AVal.cells AVal.one R4 T6 Q1 U9 V1 X6 V4 unA eqA R5 U8 J0 X9 aundef Zbr Zb6 S3 FT.indep O8 Q8 K1 J2 in1 V9 V8 Y8 SubS SubE SubB
theorem c70(l:List Nat)(x p:Nat)(h:l.length≤1000)(hp:l[p]? = some x)(hf:∀ q,q<p→l[q]? ≠ some x):PCall Tryz.prog 161 [.imm (Z0 l),.int .i64 x] (.int .i64 p):=by
 refine Zac (by simp only[Y0,AVal.closed,G0,Bool.and_self]) trivial (B0 hm Tryz.func161 cf70 (Nat.le_of_ble_eq_true rfl) ?_)
 have hlen:(Z0 l).length=l.length:=by simp[Z0]
 have hrow:∀ (i y:Nat),l[i]? = some y→(Z0 l)[i]? = some [AVal.int .i64 (y:Int)]:=by
  intro i y hi;rw[Z0,List.getElem?_map,hi]; rfl
 have hpl:p<l.length:=(gS.1 hp).1;generalize Z0 l=rows at hlen hrow;simp[af70];refine Zav (α:=Nat×Nat) (fun a=>[(5,.int .i64 a.1),(1,.int .i64 x),(0,.imm rows)]) (fun a=>⟨[],a.2⟩)
  (fun a=>l.length - a.1) (fun a=>a.1≤p) (0,3) (by simp) (by simp) ?_
 rintro⟨i,q⟩ hi;simp only at hi ⊢;have hlt:i<l.length:=by omega
 have hy:l[i]? = some l[i]:=gE hlt;have hr:=hrow i _ hy;obtain⟨hil,hr2⟩:=gS.1 hr;have hw1:IntKind.i64.wrap ((i:Int)+1)=(i:Int)+1:=Z6 (by omega) (by omega)
 generalize l[i]=y at hy hr hr2;by_cases hip:i=p
 ·subst hip;rw[hp]at hy;injection hy with hy
  subst hy;simp[hlen,hlt,hr,hr2]
 ·have hne:¬((y:Int)=x):=by
   intro e;have:y=x:=by omega
   subst this;exact hf i (by omega) hy
  simp[hlen,hlt,hr,hr2,hne,hw1];exact⟨(i+1,q+100),by simp; omega,by simp; omega,by simp<;>omega⟩
def U1(x:Nat):List Nat→Nat
 | []=>0
 | y :: r=>if y=x then 0 else 1+U1 x r
theorem Zax{x:Nat}:∀ {l:List Nat},x∈l→l[U1 x l]? = some x ∧ ∀ q,q<U1 x l→l[q]? ≠ some x
 | [],h=>by simp at h
 | y :: r,h=>by
  simp only[U1];by_cases hy:y=x
  ·subst hy;simp
  ·rw[if_neg hy];have hm:x∈r:=by
    rcases List.mem_cons.1 h with h|h
    ·exact absurd h.symm hy
    ·exact h
   obtain⟨h1,h2⟩:=Zax hm;refine⟨by rw[Nat.add_comm,List.getElem?_cons_succ]; exact h1,fun q hq=>?_⟩
   cases q with
   | zero=>simp[hy]
   | succ q=>rw[List.getElem?_cons_succ]; exact h2 q (by omega)
def Y3(ls:List Lt)(ax:List Nat)(d:Nat):Nat:=
 if 2*ls.length≤d then
  if d % 2=0 then U3 ls.length (ax.getD (((d - 2*ls.length) / 2+1) % ax.length) 0) (!down ls (ax.getD (((d - 2*ls.length) / 2+1) % ax.length) 0))
  else U3 ls.length (ax.getD ((d - 2*ls.length) / 2) 0) (down ls (ax.getD ((d - 2*ls.length) / 2) 0))
 else
  let v:=if d % 2=0 then (d / 2+1) % ls.length else d / 2
  if (at' ls v).k=2 then U3 ls.length (W1 ls v ls.length 0) ((d % 2 == 0) == ((at' ls v).o == ((at' ls v).s == 1)))
  else if down ls v=(d % 2 == 0)then 2*ls.length+2*U1 v ax else 2*ls.length+2*((U1 v ax+ax.length - 1) % ax.length)+1
theorem Zx6(f:Int)(ls:List Lt)(ax:List Nat)(d:Nat):Y0 [cV f ls,.imm (Z0 ax),.int .i64 d]=true:=by
 show((cV f ls).closed&&(X8 (Z0 ax)&&(true&&true)))=true;rw[C5,G0]; rfl
theorem c40a(f:Int)(ls:List Lt)(ax:List Nat)(d:Nat)(h:ls.length≤1000)(ha:ax.length≤1000)(hd1:2*ls.length≤d)(hd2:d<2*ls.length+2*ax.length)(hm:∀ v,v∈ax→v<ls.length) :
 PCall Tryz.prog 103 [cV f ls,.imm (Z0 ax),.int .i64 d] (.int .i64 (Y3 ls ax d:Nat)):=by
 refine Zac (Zx6 f ls ax d) trivial (B0 Go.Known.hm Tryz.func103 cf40 (Nat.le_of_ble_eq_true rfl) ?_);have hR:=N8 ls;have h68:=fun p hp=>c68 f ls p h hp
 have h67:=fun p b hp=>c67 f ls p b h hp
 unfold cV at *;generalize ls.map rowL=rows at *;have hlen:=hR.len;have hal:(Z0 ax).length=ax.length:=by simp[Z0]
 have har:∀ (i y:Nat),ax[i]? = some y→(Z0 ax)[i]? = some [AVal.int .i64 (y:Int)]:=by
  intro i y hi;rw[Z0,List.getElem?_map,hi]; rfl
 generalize Z0 ax=axr at *;have hw1:IntKind.i64.wrap (2*(ls.length:Int))=2*(ls.length:Int):=Z6 (by omega) (by omega)
 have hdI:2*(ls.length:Int)≤d:=by omega
 obtain⟨j2,hj2⟩:∃ j2,d - 2*ls.length=j2:=⟨_,rfl⟩
 obtain⟨j,hj⟩:∃ j,j2 / 2=j:=⟨_,rfl⟩
 have hw2:IntKind.i64.wrap ((d:Int) - 2*(ls.length:Int))=(j2:Int):=by rw[Z6 (by omega) (by omega)]; omega
 have ht2:Int.tdiv (j2:Int) 2=(j:Int):=by rw[A0,hj]
 have hw3:IntKind.i64.wrap (j:Int)=(j:Int):=Z6 (by omega) (by omega)
 have hjm:j<ax.length:=by omega
 unfold Y3;rw[if_pos hd1,hj2,hj];have hne:¬ax=[]:=by intro e; subst e; simp at hjm
 by_cases hp:d % 2=0
 ·have hpI:Int.tmod (d:Int) 2=0:=by rw[Zfa,hp]; rfl
  obtain⟨j1,hj1⟩:∃ j1,j+1=j1:=⟨_,rfl⟩
  have hw4:IntKind.i64.wrap ((j:Int)+1)=(j1:Int):=by rw[Z6 (by omega) (by omega)]; omega
  rw[if_pos hp,hj1];obtain⟨k,hkk⟩:∃ k,j1 % ax.length=k:=⟨_,rfl⟩
  have hk:k<ax.length:=by rw[← hkk]; exact Nat.mod_lt _ (by omega)
  have htk:Int.tmod (j1:Int) (ax.length:Int)=(k:Int):=by rw[Zhv,hkk]
  rw[hkk];have hv:ax[k]? = some (ax.getD k 0):=by rw[List.getD,gE hk]; rfl
  have hr:=har _ _ hv;obtain⟨hil,hr2⟩:=gS.1 hr;have hvm:=hm _ (List.mem_of_getElem? hv);generalize ax.getD k 0=v at *;simp[af40,hlen,hal,hw1,hdI,hw2,ht2,hw3,hpI,hw4,htk,hne,hk,hr,hr2]
  try simp[hlen]
  refine⟨_,(h68 v (by omega)).x _ _ _,?_⟩
  simp[hlen];exact(h67 v _ hvm).x _ _ _
 ·have hpI:¬Int.tmod (d:Int) 2=0:=by rw[Zfa]; omega
  rw[if_neg hp];have hv:ax[j]? = some (ax.getD j 0):=by rw[List.getD,gE hjm]; rfl
  have hr:=har _ _ hv;obtain⟨hil,hr2⟩:=gS.1 hr;have hvm:=hm _ (List.mem_of_getElem? hv);generalize ax.getD j 0=v at *;simp[af40,hlen,hal,hw1,hdI,hw2,ht2,hw3,hpI,hne,hjm,hr,hr2]
  try simp[hlen]
  refine⟨_,(h68 v (by omega)).x _ _ _,?_⟩
  try simp[hlen]
  exact(h67 v _ hvm).x _ _ _
set_option maxRecDepth 100000 in
theorem c40b(f:Int)(ls:List Lt)(ax:List Nat)(d:Nat)(h:ls.length≤1000)(ha:ax.length≤1000)(hd1:¬2*ls.length≤d)(hm:∀ v,v<ls.length→(at' ls v).k≠2→v∈ax)(h0:0<ax.length) :
 PCall Tryz.prog 103 [cV f ls,.imm (Z0 ax),.int .i64 d] (.int .i64 (Y3 ls ax d:Nat)):=by
 refine Zac (Zx6 f ls ax d) trivial (B0 Go.Known.hm Tryz.func103 cf40 (Nat.le_of_ble_eq_true rfl) ?_);have hR:=N8 ls;have h68:=fun p hp=>c68 f ls p h hp
 have h67:=fun p b hp=>c67 f ls p b h hp
 have h69:=fun p hp=>c69 f ls p h hp
 have h70:=fun x p hp hf=>c70 ax x p ha hp hf
 unfold cV at *;generalize ls.map rowL=rows at *;have hlen:=hR.len;have hal:(Z0 ax).length=ax.length:=by simp[Z0]
 generalize Z0 ax=axr at *;have hw1:IntKind.i64.wrap (2*(ls.length:Int))=2*(ls.length:Int):=Z6 (by omega) (by omega)
 have hdI:¬(2*(ls.length:Int)≤d):=by omega
 have hn0:¬ls=[]:=by intro e; subst e; simp at hd1
 obtain⟨d2,hd2⟩:∃ d2,d / 2=d2:=⟨_,rfl⟩
 have ht2:Int.tdiv (d:Int) 2=(d2:Int):=by rw[A0,hd2]
 have hw2:IntKind.i64.wrap (d2:Int)=(d2:Int):=Z6 (by omega) (by omega)
 obtain⟨d3,hd3⟩:∃ d3,d2+1=d3:=⟨_,rfl⟩
 have hw3:IntKind.i64.wrap ((d2:Int)+1)=(d3:Int):=by rw[Z6 (by omega) (by omega)]; omega
 obtain⟨d4,hd4⟩:∃ d4,d3 % ls.length=d4:=⟨_,rfl⟩
 have ht4:Int.tmod (d3:Int) (ls.length:Int)=(d4:Int):=by rw[Zhv,hd4]
 have hd4l:d4<ls.length:=by rw[← hd4]; exact Nat.mod_lt _ (by omega)
 unfold Y3;rw[if_neg hd1,hd2,hd3,hd4];simp only;have body:∀ (v:Nat) (fw:Bool),v<ls.length→(d % 2=0↔fw=true)→(if d % 2=0 then d4 else d2)=v→(Int.tmod (d:Int) 2=0↔fw=true) →
  wpS Tryz.prog af40.ntmps af40.body (J0 af40.ntmps af40.results fun r m'=>r=AVal.int IntKind.i64 ((if (at' ls v).k=2 then U3 ls.length (W1 ls v ls.length 0) (fw == ((at' ls v).o == ((at' ls v).s == 1)))
   else if down ls v=fw then 2*ls.length+2*U1 v ax else 2*ls.length+2*((U1 v ax+ax.length - 1) % ax.length)+1:Nat):Int))
   (W9 0 [AVal.agg [AVal.int IntKind.i64 f,AVal.imm rows],AVal.imm axr,AVal.int IntKind.i64 d] []) ⟨[],1⟩:=by
  intro v fw hv hpar hvd hparI;have hrow:=hR.row v hv;obtain⟨hil,hrow2⟩:=gS.1 hrow;have hmv:=hm v hv;have h69v:=h69 v hv;have h68v:=h68 v (by omega)
  generalize hl:at' ls v=l at *;have hoth:W1 ls v ls.length 0<ls.length:=by
   have:∀ k j,j+k≤ls.length→W1 ls v k j<ls.length:=by
    intro k
    induction k with
    | zero=>intro j _; exact hv
    | succ k ih=>
     intro j hj;simp only[W1];split
     ·omega
     ·exact ih (j+1) (by omega)
   exact this ls.length 0 (by omega)
  rcases l with⟨lk,lg,lr,li,ls',lo⟩
  simp only at *;cases fw with
  | true=>
   have hp0:Int.tmod (d:Int) 2=0:=hparI.2 rfl;rw[if_pos (hpar.2 rfl)]at hvd;subst hvd;by_cases hk:lk=2
   ·rw[if_pos hk];obtain⟨sb,hsb⟩:∃ sb,(ls' == (1:Int))=sb:=⟨_,rfl⟩
    cases lo<;>cases sb
    all_goals
     have hs:=hsb;simp at hs;rw[hsb];simp[af40,hlen,hal,hw1,hdI,hp0,ht2,hw2,hw3,ht4,hn0,hv,hrow,hrow2,rowL,hk,hs]
     try simp
     refine⟨_,h69v.x _ _ _,?_⟩
     try simp
     exact(h67 _ _ hoth).x _ _ _
   ·rw[if_neg hk];obtain⟨g1,g2⟩:=Zax (hmv hk);have hj:=(gS.1 g1).1;have h70v:=h70 _ _ g1 g2;generalize U1 d4 ax=jx at *;simp[af40,hlen,hal,hw1,hdI,hp0,ht2,hw2,hw3,ht4,hn0,hv,hrow,hrow2,rowL,hk];refine W3 h70v ?_;simp;refine W3 h68v ?_;obtain⟨j1,hj1⟩:∃ j1,jx+ax.length=j1:=⟨_,rfl⟩
    obtain⟨j2,hj2⟩:∃ j2,j1 - 1=j2:=⟨_,rfl⟩
    obtain⟨j3,hj3⟩:∃ j3,j2 % ax.length=j3:=⟨_,rfl⟩
    have e1:IntKind.i64.wrap ((jx:Int)+ax.length)=(j1:Int):=by rw[Z6 (by omega) (by omega)]; omega
    have e2:IntKind.i64.wrap ((j1:Int) - 1)=(j2:Int):=by rw[Z6 (by omega) (by omega)]; omega
    have e3:Int.tmod (j2:Int) (ax.length:Int)=(j3:Int):=by rw[Zhv,hj3]
    have hj3l:j3<ax.length:=by rw[← hj3]; exact Nat.mod_lt _ h0
    have e4:IntKind.i64.wrap (2*(j3:Int))=2*(j3:Int):=Z6 (by omega) (by omega)
    have e5:IntKind.i64.wrap (2*(ls.length:Int)+2*(j3:Int))=2*(ls.length:Int)+2*(j3:Int):=Z6 (by omega) (by omega)
    have e6:IntKind.i64.wrap (2*(ls.length:Int)+2*(j3:Int)+1)=2*(ls.length:Int)+2*(j3:Int)+1:=Z6 (by omega) (by omega)
    have e7:IntKind.i64.wrap (2*(jx:Int))=2*(jx:Int):=Z6 (by omega) (by omega)
    have e8:IntKind.i64.wrap (2*(ls.length:Int)+2*(jx:Int))=2*(ls.length:Int)+2*(jx:Int):=Z6 (by omega) (by omega)
    have hm0:¬ax=[]:=by intro e; subst e; simp at h0
    cases hdn:down ls d4
    all_goals simp[hw1,e1,e2,e3,e4,e5,e6,e7,e8,hm0,hj1,hj2,hj3]
  | false=>
   have hp0:¬Int.tmod (d:Int) 2=0:=fun e=>absurd (hparI.1 e) (by simp)
   rw[if_neg (fun e=>absurd (hpar.1 e) (by simp))]at hvd
   subst hvd;by_cases hk:lk=2
   ·rw[if_pos hk];obtain⟨sb,hsb⟩:∃ sb,(ls' == (1:Int))=sb:=⟨_,rfl⟩
    cases lo<;>cases sb
    all_goals
     have hs:=hsb;simp at hs;rw[hsb];simp[af40,hlen,hal,hw1,hdI,hp0,ht2,hw2,hw3,ht4,hn0,hv,hrow,hrow2,rowL,hk,hs]
     try simp
     refine⟨_,h69v.x _ _ _,?_⟩
     try simp
     exact(h67 _ _ hoth).x _ _ _
   ·rw[if_neg hk];obtain⟨g1,g2⟩:=Zax (hmv hk);have hj:=(gS.1 g1).1;have h70v:=h70 _ _ g1 g2;generalize U1 d2 ax=jx at *;simp[af40,hlen,hal,hw1,hdI,hp0,ht2,hw2,hw3,ht4,hn0,hv,hrow,hrow2,rowL,hk];refine W3 h70v ?_;simp;refine W3 h68v ?_;obtain⟨j1,hj1⟩:∃ j1,jx+ax.length=j1:=⟨_,rfl⟩
    obtain⟨j2,hj2⟩:∃ j2,j1 - 1=j2:=⟨_,rfl⟩
    obtain⟨j3,hj3⟩:∃ j3,j2 % ax.length=j3:=⟨_,rfl⟩
    have e1:IntKind.i64.wrap ((jx:Int)+ax.length)=(j1:Int):=by rw[Z6 (by omega) (by omega)]; omega
    have e2:IntKind.i64.wrap ((j1:Int) - 1)=(j2:Int):=by rw[Z6 (by omega) (by omega)]; omega
    have e3:Int.tmod (j2:Int) (ax.length:Int)=(j3:Int):=by rw[Zhv,hj3]
    have hj3l:j3<ax.length:=by rw[← hj3]; exact Nat.mod_lt _ h0
    have e4:IntKind.i64.wrap (2*(j3:Int))=2*(j3:Int):=Z6 (by omega) (by omega)
    have e5:IntKind.i64.wrap (2*(ls.length:Int)+2*(j3:Int))=2*(ls.length:Int)+2*(j3:Int):=Z6 (by omega) (by omega)
    have e6:IntKind.i64.wrap (2*(ls.length:Int)+2*(j3:Int)+1)=2*(ls.length:Int)+2*(j3:Int)+1:=Z6 (by omega) (by omega)
    have e7:IntKind.i64.wrap (2*(jx:Int))=2*(jx:Int):=Z6 (by omega) (by omega)
    have e8:IntKind.i64.wrap (2*(ls.length:Int)+2*(jx:Int))=2*(ls.length:Int)+2*(jx:Int):=Z6 (by omega) (by omega)
    have hm0:¬ax=[]:=by intro e; subst e; simp at h0
    cases hdn:down ls d2
    all_goals simp[hw1,e1,e2,e3,e4,e5,e6,e7,e8,hm0,hj1,hj2,hj3]
 by_cases hp:d % 2=0
 ·rw[if_pos hp];have:=body d4 true hd4l (by simp[hp]) (by rw[if_pos hp]) (by rw[Zfa,hp]; simp)
  have e:(d % 2 == 0)=true:=by simp[hp]
  rw[e];exact this
 ·rw[if_neg hp];have:=body d2 false (by omega) (by simp[hp]) (by rw[if_neg hp]) (by rw[Zfa]; simp; omega)
  have e:(d % 2 == 0)=false:=by simp[hp]
  rw[e];exact this
end Go.Known
end
