/- Part 15 of the proof: Ra, Lb. -/
import Derived.Test.YtilmpmlkndfbjaaGreatDoorR13
import Derived.Test.YtilmpmlkndfbjaaGreatDoorR14
set_option linter.all false
section
namespace Go.Known
open Go Go.AE Go.Proofs
open Go.Plain
attribute [local simp] Zdk Zcv Zbn Zdb Zb9 Zdz Zcb Zcm Zc7 O6 O3 P8 P7 O1 O5 Zcy Zbm Zdo Zdd Zd5 Zdy Zdf Zdi Zbj Zbv Zdw Zbe Zbz Zbf Zca Zde Zbg Zd2 Zbh Zc5 Zdj Zc4 Zcq Zcr Zbu Zb8 Zd0 Zch Zby Zbq Zcg Zb5 Zcn Zcl Zbp Zck Zdc Zb3 Zcu Zdh Zb0 Zdq Zbs Zc2 Zb4 Zb7 Zdn Zdr Zd1 Zcp Zcd Zb1 Za8 Za3 Zc8 Env.get U1 SMem.at SMem.app SMem.get Z7 S3 AVal.cells AVal.one T7 P0 Zc6 Zbi Zbo Zbc Zda Zcx Zdp Zcz Zbw Zc3 Zdm Zc9 Zdv unA Q7 T0 H5 L4 W8 aundef Zbx Zbr Zce Zbt Zdg P5 Y8 L8 L3 H3 B5 Q9 F4 SubR SubRE SubRB InjK InjA qOf W3 AVal.ren U7 Z6 ABlk.ren J8 Zaf I7 C3 X5 W6 J3 Q6 M5
abbrev dV0(f:Int)(rows:List (List AVal)):ABlk:=.cells 7 [[.int .i64 f,.imm rows,.nilSl,.nilSl,.nilSl,.nilMap,.nilSl]]
abbrev dM1(f:Int)(rows:List (List AVal)):SMem:=⟨[(1,dV0 f rows)],2⟩
abbrev dM2(f:Int)(rows:List (List AVal)):SMem:=⟨[(2,.cells 1 [[.ptr 1 0 0]]),(1,dV0 f rows)],3⟩
set_option maxHeartbeats 1000000 in
theorem c167(f:Int)(rows:List (List AVal))(e:∀ q,Z6 q rows=rows)(l:Lt) :
 Ctr Tryz.prog 172 [.agg (rowL l),.ptr 2 0 0] (dM2 f rows) fun r m=>r=.bool (!okC f l)∧m=dM2 f rows:=by
 refine Za1 hm Tryz.func172 Zyl rfl rfl fun K u=>?_
 rcases l with⟨t,p,w,v,o,lo⟩
 have c:∀ b m,(!okC f ⟨t,p,w,v,o,lo⟩)=b→SubR 3 [] [(0,.bool b)] (dM2 f rows) [(0,.bool b)] m→O9 3 K (.bool b) m:=
  fun b m y h=>by subst y; exact Z9 u [] h
 clear u;by_cases g:t=1
 ·by_cases d:p<0
  ·have a:¬0≤p:=by omega
   simp[rowL,g,d,a]; exact c _ _ (by simp[okC,g,d,a]) (by simp[e])
  have a:0≤p:=by omega
  by_cases j:f<p
  ·have i:¬p≤f:=by omega
   simp[rowL,g,d,a,j,i]; exact c _ _ (by simp[okC,g,d,a,j,i]) (by simp[e])
  have i:p≤f:=by omega
  by_cases k:v=0
  ·by_cases n:o=0
   ·cases lo with
    | true=>
     simp[rowL,g,d,a,j,i,k,n]; exact c _ _ (by simp[okC,g,d,a,j,i,k,n]) (by simp[e])
    | false=>
     simp[rowL,g,d,a,j,i,k,n]; exact c _ _ (by simp[okC,g,d,a,j,i,k,n]) (by simp[e])
   ·simp[rowL,g,d,a,j,i,k,n]; exact c _ _ (by simp[okC,g,d,a,j,i,k,n]) (by simp[e])
  ·simp[rowL,g,d,a,j,i,k]; exact c _ _ (by simp[okC,g,d,a,j,i,k]) (by simp[e])
 by_cases d:t=2
 ·by_cases j:p=0
  ·by_cases k:w=0
   ·by_cases n:o=1
    ·simp[rowL,g,d,j,k,n]; exact c _ _ (by simp[okC,g,d,j,k,n]) (by simp[e])
    ·by_cases s:o = -1
     ·simp[rowL,g,d,j,k,n,s]; exact c _ _ (by simp[okC,g,d,j,k,n,s]) (by simp[e])
     ·simp[rowL,g,d,j,k,n,s]; exact c _ _ (by simp[okC,g,d,j,k,n,s]) (by simp[e])
   ·simp[rowL,g,d,j,k]; exact c _ _ (by simp[okC,g,d,j,k]) (by simp[e])
  ·simp[rowL,g,d,j]; exact c _ _ (by simp[okC,g,d,j]) (by simp[e])
 ·simp[rowL,g,d]; exact c _ _ (by simp[okC,g,d]) (by simp[e])
set_option maxHeartbeats 1000000 in
theorem c183(f:Int)(ls:List Lt)(h:ls.length≤1000) :
 Ctr Tryz.prog 188 [.imm (ls.map rowL),.func (.func 172) [] [.ptr 2 0 0]] (dM2 f (ls.map rowL)) fun r m=>(∃ n:Int,r=.int .i64 n∧decide (0≤n) = !ls.all (okC f))∧m=dM2 f (ls.map rowL):=by
 refine Zc0 hm Tryz.func188 Zxy rfl rfl fun K u=>?_
 have v:=M9 ls;have a:∀ q,Z6 q (ls.map rowL)=ls.map rowL:=fun q=>X6 q _ (U6 ls)
 have z:=fun l=>c167 f (ls.map rowL) a l
 generalize ls.map rowL=rows at *;have b:=v.len;have k:∀ (n:Int) m,decide (0≤n)=(!ls.all (okC f))→SubR 3 [] [(0,.int .i64 n)] (dM2 f rows) [(0,.int .i64 n)] m→O9 3 K (.int .i64 n) m:=
  fun n m y h=>Z9 (u (.int .i64 n) (dM2 f rows) ⟨⟨n,rfl,y⟩,rfl⟩) [] h
 clear u;simp;refine B0 (α:=Nat) (fun i=>[(8,.int .i64 i),(7,.int .i64 ls.length),(1,.func (.func 172) [] [.ptr 2 0 0]),(0,.imm rows)]) (fun i=>⟨[(2,.cells 1 [[.ptr 1 0 0]]),(1,dV0 f rows)],5⟩)
  (fun i=>ls.length - i) (fun i=>i≤ls.length∧(ls.take i).all (okC f)=true) 0 [] (by simp[a,b]) (by simp) ?_
 rintro i ⟨hi,c⟩ N w;by_cases d:i<ls.length
 ·have e:=v.row i d;obtain⟨B,j⟩:=gS.1 e;have t:IntKind.i64.wrap ((i:Int)+1)=(i:Int)+1:=Z1 (by omega) (by omega)
  have g:ls.take (i+1)=ls.take i++[at' ls i]:=by
   rw[List.take_add_one,at',List.getD,gE d];rfl
  have p:at' ls i∈ls:=K2 d;simp[b,d,e,j,rowL];refine Q1 (z (at' ls i)) [(1,1),(2,2)] (by simp[rowL]) (by simp[a]) (by simp) ?_
  rintro r C ⟨rfl,rfl⟩;cases o:okC f (at' ls i)with
  | true=>
   simp[a,t];exact w (i+1) [] _ _ (by omega) ⟨by omega,by rw[g,List.all_append,c]; simp[o]⟩ (by simp[a,b])
  | false=>
   have s:ls.all (okC f)=false:=by rw[List.all_eq_false]; exact⟨_,p,by simp[o]⟩
   simp[a];exact k _ _ (by simp[s]) (by simp[a])
 ·have A:i=ls.length:=by omega
  subst A;rw[List.take_length]at c;simp[b];exact k _ _ (by simp[c]) (by simp[a])
theorem c166(f:Int)(ls:List Lt)(h:ls.length≤1000) :
 Ctr Tryz.prog 171 [.imm (ls.map rowL),.func (.func 172) [] [.ptr 2 0 0]] (dM2 f (ls.map rowL)) fun r m=>r=.bool (!ls.all (okC f))∧m=dM2 f (ls.map rowL):=by
 refine Za1 hm Tryz.func171 Zvi rfl rfl fun K b=>?_
 have a:∀ q,Z6 q (ls.map rowL)=ls.map rowL:=fun q=>X6 q _ (U6 ls)
 have c:=c183 f ls h;generalize ls.map rowL=rows at *;simp;refine Q1 c [(1,1),(2,2)] (by simp[a]) (by simp[a]) (by simp) ?_
 rintro r e ⟨⟨n,rfl,d⟩,rfl⟩;simp[a,d];exact Z9 b [] (by simp[a])
theorem c131(f:Int)(ls:List Lt)(h:ls.length≤1000) :
 Ctr Tryz.prog 140 [.ptr 1 0 0] (dM1 f (ls.map rowL)) fun r m=>r=.bool (ls.all (okC f))∧m=dM1 f (ls.map rowL):=by
 refine Za1 hm Tryz.func140 Zru rfl rfl fun K b=>?_
 have a:∀ q,Z6 q (ls.map rowL)=ls.map rowL:=fun q=>X6 q _ (U6 ls)
 have c:=c166 f ls h;generalize ls.map rowL=rows at *;simp;refine Q1 c [(1,1),(2,2)] (by simp[a]) (by simp[a]) (by simp) ?_
 rintro r d ⟨rfl,rfl⟩;simp[a];exact Z9 b [] (by simp[a])
theorem c132(f:Int)(ls:List Lt)(h:ls.length≤1000)(j:0<ls.length) :
 Ctr Tryz.prog 141 [.ptr 1 0 0] (dM1 f (ls.map rowL)) fun r m=>r=.bool (decide ((at' ls 0).k=1)&&decide (Z3 ls % 2=0))∧m=dM1 f (ls.map rowL):=by
 refine Za1 hm Tryz.func141 Zsq rfl rfl fun K e=>?_
 have g:=M9 ls;have c:∀ q,Z6 q (ls.map rowL)=ls.map rowL:=fun q=>X6 q _ (U6 ls)
 have i:=c168 f ls h;unfold cV at i;generalize ls.map rowL=rows at *;have a:=g.len;have b:=g.row 0 j;by_cases d:(at' ls 0).k=1
 ·simp[a,b,rowL,d];refine J7 i ?_;simp[Zfv];refine Z9 (v0:=.bool (decide ((at' ls 0).k=1)&&decide (Z3 ls % 2=0))) e [] ?_;simp[c,d,Z3];exact decide_eq_decide.2 (by omega)
 ·simp[a,b,rowL,d];refine Z9 (v0:=.bool (decide ((at' ls 0).k=1)&&decide (Z3 ls % 2=0))) e [] ?_;simp[c,d]
end Go.Known
end
section
namespace Go.Known
open Go Go.AE Go.Proofs
open Go.Plain
attribute [local simp] E8 E3 F9 F8 E4 E5 F5 D1 O6 O3 P8 P7 O1 O5 E9 E7 U0 evE Env.get Y3 U1 stepD SMem.at SMem.app SMem.get Z7 AVal.cells AVal.one Q5 T7 P0 W2 U5 W7 V6 unA eqA Q7 T0 I6 W8 aundef Zdx Zbk S7 FT.indep N4 O4 I0 H4 in1 V7 V8 Y9 SubS SubE SubB
theorem c70(l:List Nat)(x p:Nat)(h:l.length≤1000)(r:l[p]? = some x)(s:∀ q,q<p→l[q]? ≠ some x):PCall Tryz.prog 59 [.imm (Z0 l),.int .i64 x] (.int .i64 p):=by
 refine A9 (by simp only[X4,AVal.closed,Zas,Bool.and_self]) trivial (B6 hm Tryz.func59 cf70 (Nat.le_of_ble_eq_true rfl) ?_)
 have b:(Z0 l).length=l.length:=by simp[Z0]
 have c:∀ (i y:Nat),l[i]? = some y→(Z0 l)[i]? = some [AVal.int .i64 (y:Int)]:=by
  intro i y hi;rw[Z0,List.getElem?_map,hi]; rfl
 have u:p<l.length:=(gS.1 r).1;generalize Z0 l=rows at b c;simp[af70];refine Zar (α:=Nat×Nat) (fun a=>[(5,.int .i64 a.1),(1,.int .i64 x),(0,.imm rows)]) (fun a=>⟨[],a.2⟩)
  (fun a=>l.length - a.1) (fun a=>a.1≤p) (0,3) (by simp) (by simp) ?_
 rintro⟨i,q⟩ hi;simp only at hi ⊢;have d:i<l.length:=by omega
 have j:l[i]? = some l[i]:=gE d;have k:=c i _ j;obtain⟨t,g⟩:=gS.1 k;have o:IntKind.i64.wrap ((i:Int)+1)=(i:Int)+1:=Z1 (by omega) (by omega)
 generalize l[i]=y at j k g;by_cases m:i=p
 ·subst m;rw[r]at j;injection j with j
  subst j;simp[b,d,k,g]
 ·have n:¬((y:Int)=x):=by
   intro e;have:y=x:=by omega
   subst this;exact s i (by omega) j
  simp[b,d,k,g,n,o];exact⟨(i+1,q+100),by simp; omega,by simp; omega,by simp<;>omega⟩
def T8(x:Nat):List Nat→Nat
 | []=>0
 | y :: r=>if y=x then 0 else 1+T8 x r
theorem Zau{x:Nat}:∀ {l:List Nat},x∈l→l[T8 x l]? = some x ∧ ∀ q,q<T8 x l→l[q]? ≠ some x
 | [],h=>by simp at h
 | y :: r,h=>by
  simp only[T8];by_cases a:y=x
  ·subst a;simp
  ·rw[if_neg a];have hm:x∈r:=by
    rcases List.mem_cons.1 h with h|h
    ·exact absurd h.symm a
    ·exact h
   obtain⟨b,c⟩:=Zau hm;refine⟨by rw[Nat.add_comm,List.getElem?_cons_succ]; exact b,fun q d=>?_⟩
   cases q with
   | zero=>simp[a]
   | succ q=>rw[List.getElem?_cons_succ]; exact c q (by omega)
def V1(ls:List Lt)(ax:List Nat)(d:Nat):Nat:=
 if 2*ls.length≤d then
  if d % 2=0 then T6 ls.length (ax.getD (((d - 2*ls.length) / 2+1) % ax.length) 0) (!down ls (ax.getD (((d - 2*ls.length) / 2+1) % ax.length) 0))
  else T6 ls.length (ax.getD ((d - 2*ls.length) / 2) 0) (down ls (ax.getD ((d - 2*ls.length) / 2) 0))
 else
  let v:=if d % 2=0 then (d / 2+1) % ls.length else d / 2
  if (at' ls v).k=2 then T6 ls.length (T2 ls v ls.length 0) ((d % 2 == 0) == ((at' ls v).o == ((at' ls v).s == 1)))
  else if down ls v=(d % 2 == 0)then 2*ls.length+2*T8 v ax else 2*ls.length+2*((T8 v ax+ax.length - 1) % ax.length)+1
theorem Zwq(f:Int)(ls:List Lt)(a:List Nat)(d:Nat):X4 [cV f ls,.imm (Z0 a),.int .i64 d]=true:=by
 show((cV f ls).closed&&(W5 (Z0 a)&&(true&&true)))=true;rw[C8,Zas]; rfl
theorem c40a(f:Int)(ls:List Lt)(a:List Nat)(d:Nat)(h:ls.length≤1000)(V:a.length≤1000)(I:2*ls.length≤d)(U:d<2*ls.length+2*a.length)(hm:∀ v,v∈a→v<ls.length) :
 PCall Tryz.prog 100 [cV f ls,.imm (Z0 a),.int .i64 d] (.int .i64 (V1 ls a d:Nat)):=by
 refine A9 (Zwq f ls a d) trivial (B6 Go.Known.hm Tryz.func100 cf40 (Nat.le_of_ble_eq_true rfl) ?_);have S:=M9 ls;have s:=fun p m=>c68 f ls p h m
 have r:=fun p b m=>c67 f ls p b h m
 unfold cV at *;generalize ls.map rowL=rows at *;have c:=S.len;have t:(Z0 a).length=a.length:=by simp[Z0]
 have u:∀ (i y:Nat),a[i]? = some y→(Z0 a)[i]? = some [AVal.int .i64 (y:Int)]:=by
  intro i y hi;rw[Z0,List.getElem?_map,hi]; rfl
 generalize Z0 a=Q at *;have D:IntKind.i64.wrap (2*(ls.length:Int))=2*(ls.length:Int):=Z1 (by omega) (by omega)
 have w:2*(ls.length:Int)≤d:=by omega
 obtain⟨H,L⟩:∃ H,d - 2*ls.length=H:=⟨_,rfl⟩
 obtain⟨j,O⟩:∃ j,H / 2=j:=⟨_,rfl⟩
 have E:IntKind.i64.wrap ((d:Int) - 2*(ls.length:Int))=(H:Int):=by rw[Z1 (by omega) (by omega)]; omega
 have B:Int.tdiv (H:Int) 2=(j:Int):=by rw[A1,O]
 have F:IntKind.i64.wrap (j:Int)=(j:Int):=Z1 (by omega) (by omega)
 have g:j<a.length:=by omega
 unfold V1;rw[if_pos I,L,O];have z:¬a=[]:=by intro e; subst e; simp at g
 by_cases m:d % 2=0
 ·have n:Int.tmod (d:Int) 2=0:=by rw[Zfv,m]; rfl
  obtain⟨G,K⟩:∃ G,j+1=G:=⟨_,rfl⟩
  have N:IntKind.i64.wrap ((j:Int)+1)=(G:Int):=by rw[Z1 (by omega) (by omega)]; omega
  rw[if_pos m,K];obtain⟨k,l⟩:∃ k,G % a.length=k:=⟨_,rfl⟩
  have P:k<a.length:=by rw[← l]; exact Nat.mod_lt _ (by omega)
  have M:Int.tmod (G:Int) (a.length:Int)=(k:Int):=by rw[Zjq,l]
  rw[l];have C:a[k]? = some (a.getD k 0):=by rw[List.getD,gE P]; rfl
  have A:=u _ _ C;obtain⟨J,o⟩:=gS.1 A;have q:=hm _ (List.mem_of_getElem? C);generalize a.getD k 0=v at *;simp[af40,c,t,D,w,E,B,F,n,N,M,z,P,A,o]
  try simp[c]
  refine⟨_,(s v (by omega)).x _ _ _,?_⟩
  simp[c];exact(r v _ q).x _ _ _
 ·have n:¬Int.tmod (d:Int) 2=0:=by rw[Zfv]; omega
  rw[if_neg m];have C:a[j]? = some (a.getD j 0):=by rw[List.getD,gE g]; rfl
  have A:=u _ _ C;obtain⟨J,o⟩:=gS.1 A;have q:=hm _ (List.mem_of_getElem? C);generalize a.getD j 0=v at *;simp[af40,c,t,D,w,E,B,F,n,z,g,A,o]
  try simp[c]
  refine⟨_,(s v (by omega)).x _ _ _,?_⟩
  try simp[c]
  exact(r v _ q).x _ _ _
set_option maxRecDepth 100000 in
theorem c40b(f:Int)(ls:List Lt)(a:List Nat)(d:Nat)(h:ls.length≤1000)(ha:a.length≤1000)(ac:¬2*ls.length≤d)(hm:∀ v,v<ls.length→(at' ls v).k≠2→v∈a)(h0:0<a.length) :
 PCall Tryz.prog 100 [cV f ls,.imm (Z0 a),.int .i64 d] (.int .i64 (V1 ls a d:Nat)):=by
 refine A9 (Zwq f ls a d) trivial (B6 Go.Known.hm Tryz.func100 cf40 (Nat.le_of_ble_eq_true rfl) ?_);have hR:=M9 ls;have aj:=fun p i=>c68 f ls p h i
 have aa:=fun p b i=>c67 f ls p b h i
 have ak:=fun p i=>c69 f ls p h i
 have ab:=fun x p i hf=>c70 a x p ha i hf
 unfold cV at *;generalize ls.map rowL=rows at *;have q:=hR.len;have F:(Z0 a).length=a.length:=by simp[Z0]
 generalize Z0 a=ai at *;have t:IntKind.i64.wrap (2*(ls.length:Int))=2*(ls.length:Int):=Z1 (by omega) (by omega)
 have G:¬(2*(ls.length:Int)≤d):=by omega
 have H:¬ls=[]:=by intro e; subst e; simp at ac
 obtain⟨w,ad⟩:∃ w,d / 2=w:=⟨_,rfl⟩
 have I:Int.tdiv (d:Int) 2=(w:Int):=by rw[A1,ad]
 have L:IntKind.i64.wrap (w:Int)=(w:Int):=Z1 (by omega) (by omega)
 obtain⟨d3,al⟩:∃ d3,w+1=d3:=⟨_,rfl⟩
 have M:IntKind.i64.wrap ((w:Int)+1)=(d3:Int):=by rw[Z1 (by omega) (by omega)]; omega
 obtain⟨N,V⟩:∃ N,d3 % ls.length=N:=⟨_,rfl⟩
 have J:Int.tmod (d3:Int) (ls.length:Int)=(N:Int):=by rw[Zjq,V]
 have ae:N<ls.length:=by rw[← V]; exact Nat.mod_lt _ (by omega)
 unfold V1;rw[if_neg ac,ad,al,V];simp only;have body:∀ (v:Nat) (fw:Bool),v<ls.length→(d % 2=0↔fw=true)→(if d % 2=0 then N else w)=v→(Int.tmod (d:Int) 2=0↔fw=true) →
  wpS Tryz.prog af40.ntmps af40.body (I6 af40.ntmps af40.results fun r m'=>r=AVal.int IntKind.i64 ((if (at' ls v).k=2 then T6 ls.length (T2 ls v ls.length 0) (fw == ((at' ls v).o == ((at' ls v).s == 1)))
   else if down ls v=fw then 2*ls.length+2*T8 v a else 2*ls.length+2*((T8 v a+a.length - 1) % a.length)+1:Nat):Int))
   (U1 0 [AVal.agg [AVal.int IntKind.i64 f,AVal.imm rows],AVal.imm ai,AVal.int IntKind.i64 d] []) ⟨[],1⟩:=by
  intro v fw U S K B;have m:=hR.row v U;obtain⟨an,g⟩:=gS.1 m;have ag:=hm v U;have P:=ak v U;have O:=aj v (by omega)
  generalize hl:at' ls v=l at *;have Q:T2 ls v ls.length 0<ls.length:=by
   have:∀ k j,j+k≤ls.length→T2 ls v k j<ls.length:=by
    intro k
    induction k with
    | zero=>intro j _; exact U
    | succ k ih=>
     intro j hj;simp only[T2];split
     ·omega
     ·exact ih (j+1) (by omega)
   exact this ls.length 0 (by omega)
  rcases l with⟨lk,lg,lr,li,ah,lo⟩
  simp only at *;cases fw with
  | true=>
   have A:Int.tmod (d:Int) 2=0:=B.2 rfl;rw[if_pos (S.2 rfl)]at K;subst K;by_cases z:lk=2
   ·rw[if_pos z];obtain⟨sb,C⟩:∃ sb,(ah == (1:Int))=sb:=⟨_,rfl⟩
    cases lo<;>cases sb
    all_goals
     have hs:=C;simp at hs;rw[C];simp[af40,q,F,t,G,A,I,L,M,J,H,U,m,g,rowL,z,hs]
     try simp
     refine⟨_,P.x _ _ _,?_⟩
     try simp
     exact(aa _ _ Q).x _ _ _
   ·rw[if_neg z];obtain⟨g1,g2⟩:=Zau (ag z);have hj:=(gS.1 g1).1;have y:=ab _ _ g1 g2;generalize T8 N a=u at *;simp[af40,q,F,t,G,A,I,L,M,J,H,U,m,g,rowL,z];refine J7 y ?_;simp;refine J7 O ?_;obtain⟨D,X⟩:∃ D,u+a.length=D:=⟨_,rfl⟩
    obtain⟨E,Y⟩:∃ E,D - 1=E:=⟨_,rfl⟩
    obtain⟨c,n⟩:∃ c,E % a.length=c:=⟨_,rfl⟩
    have e1:IntKind.i64.wrap ((u:Int)+a.length)=(D:Int):=by rw[Z1 (by omega) (by omega)]; omega
    have e2:IntKind.i64.wrap ((D:Int) - 1)=(E:Int):=by rw[Z1 (by omega) (by omega)]; omega
    have e3:Int.tmod (E:Int) (a.length:Int)=(c:Int):=by rw[Zjq,n]
    have af:c<a.length:=by rw[← n]; exact Nat.mod_lt _ h0
    have e4:IntKind.i64.wrap (2*(c:Int))=2*(c:Int):=Z1 (by omega) (by omega)
    have e5:IntKind.i64.wrap (2*(ls.length:Int)+2*(c:Int))=2*(ls.length:Int)+2*(c:Int):=Z1 (by omega) (by omega)
    have e6:IntKind.i64.wrap (2*(ls.length:Int)+2*(c:Int)+1)=2*(ls.length:Int)+2*(c:Int)+1:=Z1 (by omega) (by omega)
    have e7:IntKind.i64.wrap (2*(u:Int))=2*(u:Int):=Z1 (by omega) (by omega)
    have e8:IntKind.i64.wrap (2*(ls.length:Int)+2*(u:Int))=2*(ls.length:Int)+2*(u:Int):=Z1 (by omega) (by omega)
    have Z:¬a=[]:=by intro e; subst e; simp at h0
    cases am:down ls N
    all_goals simp[t,e1,e2,e3,e4,e5,e6,e7,e8,Z,X,Y,n]
  | false=>
   have A:¬Int.tmod (d:Int) 2=0:=fun e=>absurd (B.1 e) (by simp)
   rw[if_neg (fun e=>absurd (S.1 e) (by simp))]at K
   subst K;by_cases z:lk=2
   ·rw[if_pos z];obtain⟨sb,C⟩:∃ sb,(ah == (1:Int))=sb:=⟨_,rfl⟩
    cases lo<;>cases sb
    all_goals
     have hs:=C;simp at hs;rw[C];simp[af40,q,F,t,G,A,I,L,M,J,H,U,m,g,rowL,z,hs]
     try simp
     refine⟨_,P.x _ _ _,?_⟩
     try simp
     exact(aa _ _ Q).x _ _ _
   ·rw[if_neg z];obtain⟨g1,g2⟩:=Zau (ag z);have hj:=(gS.1 g1).1;have y:=ab _ _ g1 g2;generalize T8 w a=u at *;simp[af40,q,F,t,G,A,I,L,M,J,H,U,m,g,rowL,z];refine J7 y ?_;simp;refine J7 O ?_;obtain⟨D,X⟩:∃ D,u+a.length=D:=⟨_,rfl⟩
    obtain⟨E,Y⟩:∃ E,D - 1=E:=⟨_,rfl⟩
    obtain⟨c,n⟩:∃ c,E % a.length=c:=⟨_,rfl⟩
    have e1:IntKind.i64.wrap ((u:Int)+a.length)=(D:Int):=by rw[Z1 (by omega) (by omega)]; omega
    have e2:IntKind.i64.wrap ((D:Int) - 1)=(E:Int):=by rw[Z1 (by omega) (by omega)]; omega
    have e3:Int.tmod (E:Int) (a.length:Int)=(c:Int):=by rw[Zjq,n]
    have af:c<a.length:=by rw[← n]; exact Nat.mod_lt _ h0
    have e4:IntKind.i64.wrap (2*(c:Int))=2*(c:Int):=Z1 (by omega) (by omega)
    have e5:IntKind.i64.wrap (2*(ls.length:Int)+2*(c:Int))=2*(ls.length:Int)+2*(c:Int):=Z1 (by omega) (by omega)
    have e6:IntKind.i64.wrap (2*(ls.length:Int)+2*(c:Int)+1)=2*(ls.length:Int)+2*(c:Int)+1:=Z1 (by omega) (by omega)
    have e7:IntKind.i64.wrap (2*(u:Int))=2*(u:Int):=Z1 (by omega) (by omega)
    have e8:IntKind.i64.wrap (2*(ls.length:Int)+2*(u:Int))=2*(ls.length:Int)+2*(u:Int):=Z1 (by omega) (by omega)
    have Z:¬a=[]:=by intro e; subst e; simp at h0
    cases am:down ls w
    all_goals simp[t,e1,e2,e3,e4,e5,e6,e7,e8,Z,X,Y,n]
 by_cases i:d % 2=0
 ·rw[if_pos i];have:=body N true ae (by simp[i]) (by rw[if_pos i]) (by rw[Zfv,i]; simp)
  have e:(d % 2 == 0)=true:=by simp[i]
  rw[e];exact this
 ·rw[if_neg i];have:=body w false (by omega) (by simp[i]) (by rw[if_neg i]) (by rw[Zfv]; simp; omega)
  have e:(d % 2 == 0)=false:=by simp[i]
  rw[e];exact this
end Go.Known
end
