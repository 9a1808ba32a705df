/- Part 13 -/
import Derived.Test.YtilmpmlkndfbjaaGreatDoorT12
set_option linter.all false
open Nat (ble le_of_ble_eq_true)
open Go.Proofs.Tryz (prog)
namespace Go.AE
open Go.RowKit
variable {P:Program}
theorem D2(hm:P.follows .mixedOrders=true){f:FuncId}{fn:Func}{c:AD}{args:List Aa}{m:Ac}{a:Aa->Ac->Prop}(j:P.funcs[f]?=some fn)(g:Bk P fn=some c){b:Nat}{d:List (Nat×Option (Option Nat))}{bd:An}(i:c=⟨b,d,bd⟩)(k:ble args.length b=true)
 (h:∀K:Aa->Ac->Prop,(∀r e,a r e->K r e)->Dl P b m.next bd (L3 b d (R9 m.next K)) (R4 0 args []) m):Bo P f args m a:=
 by subst i;exact Zzt hm j g k (h a λ_ _ h=>h)
theorem Ii(hm:P.follows .mixedOrders=true){f:FuncId}{fn:Func}{b:AD}{args:List Aa}{m:Ac}{v:Aa}{M:Ac}(g:P.funcs[f]?=some fn)(d:Bk P fn=some b){a:Nat}{c:List (Nat×Option (Option Nat))}{bd:An}(e:b=⟨a,c,bd⟩)(i:ble args.length a=true)
 (h:∀K:Aa->Ac->Prop,K v M->Dl P a m.next bd (L3 a c (R9 m.next K)) (R4 0 args []) m):Bo P f args m λr j=>r=v/\j=M:=
 by subst e;exact Zzt hm g d i (h _ ⟨rfl,rfl⟩)
theorem Z6{n0:Nat}{K:Aa->Ac->Prop}{v0 v:Aa}{m0 m:Ac}(a:K v0 m0)(l:List (Nat×Nat))(h:Bm n0 l [(0,v0)] m0 [(0,v)] m):R9 n0 K v m:=⟨v0,m0,l,h,a⟩
theorem JH(hm:P.follows .mixedOrders=true){f:FuncId}{fn:Func}{c:AD}{args:List Aa}{v:Aa}(j:P.funcs[f]?=some fn)(g:Bk P fn=some c){a:Nat}{e:List (Nat×Option (Option Nat))}{bd:An}(i:c=⟨a,e,bd⟩)(l:ble args.length a=true)(b:Y7 args=true)
 (d:match v with | .int _ _ | .bool _ | .str _=>True|_=>False)
 (h:∀K:Aa->Ac->Prop,K v ⟨[],1⟩->Dl P a 1 bd (L3 a e (R9 1 K)) (R4 0 args []) ⟨[],1⟩):Au P f args v:=by
 refine WG (k:=1) b (by cases v<;>first|exact d.elim|rfl) ((Ii (m:=⟨[],1⟩) (M:=⟨[],1⟩) hm j g i l h).mono λr o n=>?_);obtain⟨rfl,rfl⟩:=n;exact Zyt _ 0 _ d
theorem Jd(hm:P.follows .mixedOrders=true){f:FuncId}{fn:Func}{c:AD}{args:List Aa}{v:Aa}(k:Nat)(l:P.funcs[f]?=some fn)(i:Bk P fn=some c){a:Nat}{d:List (Nat×Option (Option Nat))}{bd:An}(j:c=⟨a,d,bd⟩)(n:ble args.length a=true)(b:Y7 args=true)(g:v.closed=true)
 (h:∀K:Aa->Ac->Prop,(∀r e,X8 e.get k r=some v->K r e)->Dl P a 1 bd (L3 a d (R9 1 K)) (R4 0 args []) ⟨[],1⟩):Au P f args v:=
 WG (k:=k) b g (D2 (m:=⟨[],1⟩) hm l i j n h)
end Go.AE
namespace Go.Ad
open Go Go.AE Go.Proofs Go.Plain
attribute [local simp] No JX QG JJ JW ND KY Vg G4 Im E5 B7 Ih E3 JM Ka S2 AG Env.get Y8 R4 Ak Ac.at Ac.app Ac.get Z7 Aa.cells Aa.one I4 K4 H9 S7 S6 W5 S5 Gy Ez C3 K5 GX U9 Ai Xo WE M7 FT.indep G3 B5 Je Fs Ma S9 S8 W9 CY Dy Dx
def Ab(l:Lt):List Aa:=[.int .i64 l.k,.int .i64 l.g,.int .i64 l.r,.int .i64 l.i,.int .i64 l.s,.bool l.o]
abbrev cV(f:Int)(ls:List Lt):Aa:=.agg [.int .i64 f,.Al (ls.map Ab)]
theorem Y6:∀(ls:List Lt),W3 (ls.map Ab)=true
 |[]=>rfl
 |l::r=>by simp only[List.map_cons,W3,Y6 r,Bool.and_true];rfl
theorem Ln(f:Int)(ls:List Lt):(cV f ls).closed=true:=by
 simp only[Aa.closed,Y7,Y6,Bool.and_self]
theorem L6{x:Int}(a : -9223372036854775808<=x)(b:x<9223372036854775808):IntKind.i64.wrap x=x:=by
 simp only[IntKind.wrap,IntKind.bits,IntKind.signed]
 first|omega|(simp;omega)
theorem Y0(n:Int)(h:-9223372036854775808<=n/\n<9223372036854775808:=by omega):IntKind.i64.wrap n=n:=L6 h.1 h.2
theorem W7(n m:Int)(h:-9223372036854775808<=n/\n<9223372036854775808/\n=m:=by omega):IntKind.i64.wrap n=m:=(L6 h.1 h.2.1).trans h.2.2
structure Rows (ls:List Lt) (rows:List (List Aa)):Prop where
 len:rows.length=ls.length
 row:∀ i,i<ls.length→rows[i]? = some (Ab (at' ls i))
theorem H1(ls:List Lt):Rows ls (ls.map Ab):=⟨by simp,λi h=>by
 rw[gM,gE h,at',List.getD,gE h];rfl⟩
theorem JL{p:Lt->Bool}{ls:List Lt}{i:Nat}(h:i<ls.length):Z4 p (ls.take (i+1))=Z4 p (ls.take i)+(if p (at' ls i)then 1 else 0):=by
 rw[List.take_add_one,NJ,at',List.getD,gE h];simp[Z4,List.filter_cons];split<;>rfl
theorem NT{p:Lt->Bool}{ls:List Lt}(i:Nat):Z4 p (ls.take i)<=i:=by
 have a:Z4 p (ls.take i)<=(ls.take i).length:=Ib;rw[lK]at a;omega
theorem Qq(a:Nat):Int.tmod (a:Int) 2=((a%2:Nat):Int):=rfl
theorem Xz(a b:Nat):Int.tmod (a:Int) (b:Int)=((a%b:Nat):Int):=rfl
theorem Zxd(a:Nat):Int.tdiv (a:Int) 2=((a / 2:Nat):Int):=rfl
def Y5(n i:Nat)(fw:Bool):Nat:=if fw then 2*i else 2*((i+n - 1) % n)+1
def V4(ls:List Lt)(i:Nat):Nat→Nat→Nat
 | 0,_=>i
 | k+1,j=>if j != i&&AO (at' ls j)&&(at' ls j).i == (at' ls i).i then j else V4 ls i k (j+1)
abbrev Z1(l:List Nat):List (List Aa):=l.map fun(i:Nat)=>[Aa.int .i64 (i:Int)]
theorem B3:∀(l:List Nat),W3 (Z1 l)=true
 |[]=>rfl
 |x::r=>by simp only[Z1,List.map_cons,W3];exact B3 r
theorem qX(f:Int)(ls:List Lt)(h:ls.length<=1000):Au prog 60 [cV f ls] (.int .i64 (Z4 AO ls:Nat)):=by
 refine IT (by simp[Y7,Ln]) trivial (Io hm Tryz.func60 sP (le_of_ble_eq_true rfl) ?_);have n:=H1 ls;unfold cV;generalize ls.map Ab=rows at n;have c:=n.len;simp[XO,oR];refine KI (α:=Nat×Nat) (λa=>[(4,.int .i64 a.1),(3,.int .i64 (Z4 AO (ls.take a.1):Nat)),(1,.ptr 1 0 0)]) (λa=>⟨[(1,.cells 2 [[.int .i64 f,.Al rows]])],a.2+5⟩)
  (λa=>ls.length-a.1) (λa=>a.1<=ls.length) (0,0) (by simp[Z4]) (by simp) ?_
 rintro⟨i,q⟩ hi;have t:=NT (p:=AO) (ls:=ls) i;simp only at hi ⊢;by_cases d:i<ls.length
 ·have e:=n.row i d;obtain⟨s,b⟩:=gS.1 e;have g:=JL (p:=AO) d;have j:=Y0 ((i:Int)+1);have o:IntKind.i64.wrap ((Z4 AO (ls.take i):Nat)+1:Int)=(Z4 AO (ls.take i):Nat)+1:=L6 (by omega) (by omega);generalize at' ls i=l at e b g;by_cases m:l.k=2
  ·simp[AO,m]at g;simp[c,d,b,Ab,m,j,o];exact⟨(i+1,q+18),by simp;omega,by simp;omega,by simp[g]⟩
  simp[AO,m]at g;simp[c,d,b,Ab,m,j];exact⟨(i+1,q+15),by simp;omega,by simp;omega,by simp[g]⟩
 have r:i=ls.length:=by omega
 subst r;simp[c]
theorem c14(f:Int)(ls:List Lt)(h:ls.length<=1000):Au prog 61 [cV f ls] (.int .i64 (Z4 As ls:Nat)):=by
 refine IT (by simp[Y7,Ln]) trivial (Io hm Tryz.func61 sQ (le_of_ble_eq_true rfl) ?_);have n:=H1 ls;unfold cV;generalize ls.map Ab=rows at n;have c:=n.len;simp[XP,oR];refine KI (α:=Nat×Nat) (λa=>[(4,.int .i64 a.1),(3,.int .i64 (Z4 As (ls.take a.1):Nat)),(1,.ptr 1 0 0)]) (λa=>⟨[(1,.cells 2 [[.int .i64 f,.Al rows]])],a.2+5⟩)
  (λa=>ls.length-a.1) (λa=>a.1<=ls.length) (0,0) (by simp[Z4]) (by simp) ?_
 rintro⟨i,q⟩ hi;have t:=NT (p:=As) (ls:=ls) i;simp only at hi ⊢;by_cases d:i<ls.length
 ·have e:=n.row i d;obtain⟨s,b⟩:=gS.1 e;have g:=JL (p:=As) d;have j:=Y0 ((i:Int)+1);have o:IntKind.i64.wrap ((Z4 As (ls.take i):Nat)+1:Int)=(Z4 As (ls.take i):Nat)+1:=L6 (by omega) (by omega);generalize at' ls i=l at e b g;by_cases m:l.k=1
  ·simp[As,m]at g;simp[c,d,b,Ab,m,j,o];exact⟨(i+1,q+18),by simp;omega,by simp;omega,by simp[g]⟩
  simp[As,m]at g;simp[c,d,b,Ab,m,j];exact⟨(i+1,q+15),by simp;omega,by simp;omega,by simp[g]⟩
 have r:i=ls.length:=by omega
 subst r;simp[c]
theorem YN(f:Int)(ls:List Lt)(h:ls.length<=1000):Au prog 110 [cV f ls] (.int .i64 (Z4 AO ls:Nat)):=by
 refine IT (by simp[Y7,Ln]) trivial (Io hm Tryz.func110 zp (le_of_ble_eq_true rfl) ?_);have n:=H1 ls;unfold cV;generalize ls.map Ab=rows at n;have c:=n.len;simp[Ji,oR];refine KI (α:=Nat×Nat) (λa=>[(9,.int .i64 a.1),(8,.int .i64 ls.length),(7,.Al rows),(3,.int .i64 (Z4 AO (ls.take a.1):Nat))]) (λa=>⟨[],a.2⟩)
  (λa=>ls.length-a.1) (λa=>a.1<=ls.length) (0,8) (by simp[Z4,c]) (by simp) ?_
 rintro⟨i,q⟩ hi;have t:=NT (p:=AO) (ls:=ls) i;simp only at hi ⊢;by_cases d:i<ls.length
 ·have e:=n.row i d;obtain⟨s,b⟩:=gS.1 e;have g:=JL (p:=AO) d;have j:=Y0 ((i:Int)+1);have o:IntKind.i64.wrap ((Z4 AO (ls.take i):Nat)+1:Int)=(Z4 AO (ls.take i):Nat)+1:=L6 (by omega) (by omega);generalize at' ls i=l at e b g;by_cases m:l.k=2
  ·simp[AO,m]at g;simp[c,d,b,Ab,m,j,o];exact⟨(i+1,q+100),by simp;omega,by simp;omega,by simp[g]<;>omega⟩
  simp[AO,m]at g;simp[c,d,b,Ab,m,j];exact⟨(i+1,q+100),by simp;omega,by simp;omega,by simp[g]<;>omega⟩
 have r:i=ls.length:=by omega
 subst r;simp[]
theorem rL(f:Int)(ls:List Lt)(h:ls.length<=1000):Au prog 173 [cV f ls] (.int .i64 (Z4 As ls:Nat)):=by
 refine IT (by simp[Y7,Ln]) trivial (Io hm Tryz.func173 Zxg (le_of_ble_eq_true rfl) ?_);have n:=H1 ls;unfold cV;generalize ls.map Ab=rows at n;have c:=n.len;simp[Jj,oR];refine KI (α:=Nat×Nat) (λa=>[(9,.int .i64 a.1),(8,.int .i64 ls.length),(7,.Al rows),(3,.int .i64 (Z4 As (ls.take a.1):Nat))]) (λa=>⟨[],a.2⟩)
  (λa=>ls.length-a.1) (λa=>a.1<=ls.length) (0,8) (by simp[Z4,c]) (by simp) ?_
 rintro⟨i,q⟩ hi;have t:=NT (p:=As) (ls:=ls) i;simp only at hi ⊢;by_cases d:i<ls.length
 ·have e:=n.row i d;obtain⟨s,b⟩:=gS.1 e;have g:=JL (p:=As) d;have j:=Y0 ((i:Int)+1);have o:IntKind.i64.wrap ((Z4 As (ls.take i):Nat)+1:Int)=(Z4 As (ls.take i):Nat)+1:=L6 (by omega) (by omega);generalize at' ls i=l at e b g;by_cases m:l.k=1
  ·simp[As,m]at g;simp[c,d,b,Ab,m,j,o];exact⟨(i+1,q+100),by simp;omega,by simp;omega,by simp[g]<;>omega⟩
  simp[As,m]at g;simp[c,d,b,Ab,m,j];exact⟨(i+1,q+100),by simp;omega,by simp;omega,by simp[g]<;>omega⟩
 have r:i=ls.length:=by omega
 subst r;simp[]
theorem c37(f:Int)(ls:List Lt)(x:Int)(h:ls.length<=1000):Au prog 97 [cV f ls,.int .i64 x] (.int .i64 (Z4 (λl=>As l&&l.g == x) ls:Nat)):=by
 refine IT (by simp[Y7,Aa.closed,Y6]) trivial (Io hm Tryz.func97 sW (le_of_ble_eq_true rfl) ?_);have s:=H1 ls;unfold cV;generalize ls.map Ab=rows at s;have c:=s.len;simp[Ye,oR];generalize y:(λl=>As l&&l.g == x)=o;refine KI (α:=Nat×Nat) (λa=>[(6,.int .i64 a.1),(5,.int .i64 (Z4 o (ls.take a.1):Nat)),(2,.ptr 1 0 0),(1,.int .i64 x)]) (λa=>⟨[(1,.cells 2 [[.int .i64 f,.Al rows]])],a.2+5⟩)
  (λa=>ls.length-a.1) (λa=>a.1<=ls.length) (0,0) (by simp[Z4]) (by simp) ?_
 rintro⟨i,q⟩ hi;have z:=NT (p:=o) (ls:=ls) i;simp only at hi ⊢;by_cases d:i<ls.length
 ·have j:=s.row i d;obtain⟨w,b⟩:=gS.1 j;have e:=JL (p:=o) d;have m:=Y0 ((i:Int)+1);have u:IntKind.i64.wrap ((Z4 o (ls.take i):Nat)+1:Int)=(Z4 o (ls.take i):Nat)+1:=L6 (by omega) (by omega);generalize at' ls i=l at j b e;have t:o l=(As l&&l.g == x):=by rw[<-y]
  rw[t]at e;by_cases n:l.k=1
  ·by_cases r:l.g=x
   ·simp[As,n,r]at e;simp[c,d,b,Ab,n,r,m,u];exact⟨(i+1,q+100),by simp;omega,by simp;omega,by simp[e]<;>omega⟩
   simp[As,n,r]at e;simp[c,d,b,Ab,n,r,m];exact⟨(i+1,q+100),by simp;omega,by simp;omega,by simp[e]<;>omega⟩
  simp[As,n]at e;simp[c,d,b,Ab,n,m];exact⟨(i+1,q+100),by simp;omega,by simp;omega,by simp[e]<;>omega⟩
 have v:i=ls.length:=by omega
 subst v;simp[c]
theorem c38(f:Int)(ls:List Lt)(x:Int)(h:ls.length<=1000):Au prog 98 [cV f ls,.int .i64 x] (.int .i64 (Z4 (λl=>AO l&&l.i == x) ls:Nat)):=by
 refine IT (by simp[Y7,Aa.closed,Y6]) trivial (Io hm Tryz.func98 sX (le_of_ble_eq_true rfl) ?_);have r:=H1 ls;unfold cV;generalize ls.map Ab=rows at r;have c:=r.len;simp[Yf,oR];generalize w:(λl=>AO l&&l.i == x)=n;refine KI (α:=Nat×Nat) (λa=>[(6,.int .i64 a.1),(5,.int .i64 (Z4 n (ls.take a.1):Nat)),(2,.ptr 1 0 0),(1,.int .i64 x)]) (λa=>⟨[(1,.cells 2 [[.int .i64 f,.Al rows]])],a.2+5⟩)
  (λa=>ls.length-a.1) (λa=>a.1<=ls.length) (0,0) (by simp[Z4]) (by simp) ?_
 rintro⟨i,q⟩ hi;have y:=NT (p:=n) (ls:=ls) i;simp only at hi ⊢;by_cases d:i<ls.length
 ·have g:=r.row i d;obtain⟨v,b⟩:=gS.1 g;have e:=JL (p:=n) d;have j:=Y0 ((i:Int)+1);have t:IntKind.i64.wrap ((Z4 n (ls.take i):Nat)+1:Int)=(Z4 n (ls.take i):Nat)+1:=L6 (by omega) (by omega);generalize at' ls i=l at g b e;have s:n l=(AO l&&l.i == x):=by rw[<-w]
  rw[s]at e;by_cases m:l.k=2
  ·by_cases o:l.i=x
   ·simp[AO,m,o]at e;simp[c,d,b,Ab,m,o,j,t];exact⟨(i+1,q+100),by simp;omega,by simp;omega,by simp[e]<;>omega⟩
   simp[AO,m,o]at e;simp[c,d,b,Ab,m,o,j];exact⟨(i+1,q+100),by simp;omega,by simp;omega,by simp[e]<;>omega⟩
  simp[AO,m]at e;simp[c,d,b,Ab,m,j];exact⟨(i+1,q+100),by simp;omega,by simp;omega,by simp[e]<;>omega⟩
 have u:i=ls.length:=by omega
 subst u;simp[c]
theorem c17(f:Int)(ls:List Lt)(h:ls.length<=1000):Au prog 64 [cV f ls] (.int .i64 (X6 ls / 2:Nat)):=by
 refine IT (by simp[Y7,Ln]) trivial (Io hm Tryz.func64 sU (le_of_ble_eq_true rfl) ?_);have a:Z4 AO ls<=ls.length:=Ib;simp[XQ,oR];refine T0 (qX f ls h) ?_;simp[X6];exact L6 (by omega) (by omega)
theorem c67(f:Int)(ls:List Lt)(i:Nat)(fw:Bool)(h:ls.length<=1000)(hi:i<ls.length):Au prog 132 [cV f ls,.int .i64 i,.bool fw] (.int .i64 (Y5 ls.length i fw:Nat)):=by
 refine IT (by simp[Y7,Aa.closed,Y6]) trivial (Io hm Tryz.func132 tC (le_of_ble_eq_true rfl) ?_);have j:=H1 ls;unfold cV;generalize ls.map Ab=rows at j;have a:=j.len;cases fw with
 |true=>
  have o:=Y0 (2*(i:Int));simp[T2,oR,a,o,Y5]
 |false=>
  obtain⟨l,n⟩:0<ls.length/\¬((ls.length:Int)=0):=by omega
  have m:ls≠[]:=by intro e;subst e;simp at l
  have b:IntKind.i64.wrap ((i:Int)+ls.length)=((i+ls.length:Nat):Int):=by rw[L6 (by omega) (by omega)];simp
  have c:=W7 (((i+ls.length:Nat):Int)-1) ((i+ls.length-1:Nat):Int);have k:=Nat.mod_lt (i+ls.length-1) l;have d:IntKind.i64.wrap (2*(((i+ls.length-1)%ls.length:Nat):Int))=((2*((i+ls.length-1)%ls.length):Nat):Int):=by rw[L6 (by omega) (by omega)];simp
  have g:IntKind.i64.wrap (((2*((i+ls.length-1)%ls.length):Nat):Int)+1)=((2*((i+ls.length-1)%ls.length)+1:Nat):Int):=by rw[L6 (by omega) (by omega)];simp
  simp[-Int.natCast_add,-Int.natCast_mul,T2,oR,a,b,c,Xz,Y5,m];rw[<-Int.natCast_emod,d,g]
theorem c66(a b:Lt):Au prog 131 [.agg (Ab a),.agg (Ab b)] (.bool (S1 a b)):=by
 refine IT rfl trivial (Io hm Tryz.func131 sZ (le_of_ble_eq_true rfl) ?_);by_cases d:a.g<b.g
 ·simp[LS,oR,Ab,d,S1]
 by_cases c:a.g=b.g
 ·by_cases e:a.r<b.r
  ·simp[LS,oR,Ab,c,e,S1]
  simp[LS,oR,Ab,c,e,S1]
 simp[LS,oR,Ab,d,c,S1]
theorem c68(f:Int)(ls:List Lt)(p:Nat)(h:ls.length<=1000)(v:p<=ls.length):Au prog 80 [cV f ls,.int .i64 p] (.bool (down ls p)):=by
 refine IT (by simp[Y7,Aa.closed,Y6]) trivial (Io hm Tryz.func80 Zh (le_of_ble_eq_true rfl) ?_);have n:=H1 ls;unfold cV;generalize ls.map Ab=rows at n;have r:=n.len;simp[Pw,oR];refine KI (α:=Nat×Nat) (λa=>[(6,.int .i64 a.1),(5,.int .i64 (Z4 As (ls.take a.1):Nat)),(2,.ptr 1 0 0),(1,.int .i64 p)]) (λa=>⟨[(1,.cells 2 [[.int .i64 f,.Al rows]])],a.2+5⟩)
  (λa=>p-a.1) (λa=>a.1<=p) (0,0) (by simp[Z4]) (by simp) ?_
 rintro⟨i,q⟩ hi;have u:=NT (p:=As) (ls:=ls) i;simp only at hi ⊢;by_cases g:i<p
 ·have c:i<ls.length:=by omega
  have b:=n.row i c;obtain⟨t,d⟩:=gS.1 b;have e:=JL (p:=As) c;have j:=Y0 ((i:Int)+1);have o:IntKind.i64.wrap ((Z4 As (ls.take i):Nat)+1:Int)=(Z4 As (ls.take i):Nat)+1:=L6 (by omega) (by omega);generalize at' ls i=l at b d e;by_cases m:l.k=1
  ·simp[As,m]at e;simp[g,b,Ab,m,j,o];exact⟨(i+1,q+100),by simp;omega,by simp;omega,by simp[e]<;>omega⟩
  simp[As,m]at e;simp[g,b,Ab,m,j];exact⟨(i+1,q+100),by simp;omega,by simp;omega,by simp[e]<;>omega⟩
 have s:i=p:=by omega
 subst s;simp[Qq,down,Z0];rw[Bool.eq_iff_iff];simp;omega
theorem c69(f:Int)(ls:List Lt)(v:Nat)(h:ls.length<=1000)(u:v<ls.length):Au prog 133 [cV f ls,.int .i64 v] (.int .i64 (V4 ls v ls.length 0:Nat)):=by
 refine IT (by simp[Y7,Aa.closed,Y6]) trivial (Io hm Tryz.func133 tD (le_of_ble_eq_true rfl) ?_);have s:=H1 ls;unfold cV;generalize ls.map Ab=rows at s;have b:=s.len;simp[Ys,oR];refine KI (α:=Nat×Nat) (λa=>[(5,.int .i64 a.1),(2,.ptr 1 0 0),(1,.int .i64 v)]) (λa=>⟨[(1,.cells 2 [[.int .i64 f,.Al rows]])],a.2+4⟩)
  (λa=>ls.length-a.1) (λa=>a.1<=ls.length/\V4 ls v ls.length 0=V4 ls v (ls.length-a.1) a.1) (0,0) (by simp) (by simp) ?_
 rintro⟨i,q⟩ ⟨hi,e⟩;simp only at hi e ⊢;have m:=s.row v u;obtain⟨w,d⟩:=gS.1 m;by_cases g:i<ls.length
 ·have p:=s.row i g;obtain⟨z,c⟩:=gS.1 p;have n:=Y0 ((i:Int)+1);have r:ls.length-i=(ls.length-(i+1))+1:=by omega
  rw[r,V4]at e;by_cases l:i=v
  ·subst l;simp at e;simp[b,g,n];exact⟨(i+1,q+100),by simp;omega,by simp;exact⟨by omega,e⟩,by simp<;>omega⟩
  have j:¬((i:Int)=v):=by omega
  by_cases o:(at' ls i).k=2
  ·by_cases t:(at' ls i).i=(at' ls v).i
   ·simp[l,AO,o,t]at e;simp[b,g,u,c,d,Ab,j,o,t,e]
   simp[l,AO,o,t]at e;simp[b,g,u,c,d,Ab,j,o,t,n];exact⟨(i+1,q+100),by simp;omega,by simp;exact⟨by omega,e⟩,by simp<;>omega⟩
  simp[l,AO,o]at e;simp[b,g,c,Ab,j,o,n];exact⟨(i+1,q+100),by simp;omega,by simp;exact⟨by omega,e⟩,by simp<;>omega⟩
 have y:i=ls.length:=by omega
 subst y;simp[V4]at e;simp[b,e]
end Go.Ad
namespace Go.AE
open Go.RowKit
def wr{α:Type}(x:α):α:=x
theorem Zzp{α:Type}(x:α):wr x=x:=Eq.trans (Eq.refl x) (Eq.refl x)
@[congr] theorem Ymc{P:Program}{g:FuncId}{args args':List Aa}{m:Ac}{w:Nat}{K:Aa -> Ac -> Prop}(h:wr args=args'):SC P g args m w K=SC P g args' m w K:=by cases h;rfl
@[congr] theorem Ym1{P:Program}{g:FuncId}{args args':List Aa}{n:Nat}{x:List Nat}{m:Ac}{K:Aa -> Option Af -> Prop}(h:wr args=args'):DC P g args n x m K=DC P g args' n x m K:=by cases h;rfl
def Bt(b:Nat)(rows:List (List Aa)):Aa:=if rows=[]then .Aj else .sl b 0 rows.length
def Bp(b k:Nat)(rows:List (List Aa))(rest:List (Nat×Af)):List (Nat×Af):=if rows=[]then rest else (b,.cells k rows) :: rest
def Bg(rows:List (List Aa)):Aa:=if rows=[]then .Aj else .Al rows
def gH(b id:Nat)(rows:List (List Aa))(x:Af):List (Nat×Option Af):=if rows=[]then [(id,some x)]else [(b,none),(id,some x)]
def dlS(b k:Nat)(rows:List (List Aa)):List (Nat×Option Af):=if rows=[]then []else [(b,some (.cells k rows))]
section
variable {b c id k bytes i n:Nat} {rows xs:List (List Aa)} {rest:List (Nat×Af)} {get:Nat→Option Af} {q:Nat→Nat} {m:Ac}
theorem RU:Bt b []=.Aj:=rfl
theorem Yk4(x:List Aa):Bt b (rows++[x])=.sl b 0 (rows.length+1):=by simp[Bt]
theorem P8(h:¬rows=[]):Bt b rows=.sl b 0 rows.length:=by simp[Bt,h]
theorem U0(h:¬rows=[]):Bp b k rows rest=(b,.cells k rows)::rest:=by simp[Bp,h]
theorem Ww:Bp b k [] rest=rest:=rfl
theorem Yg3(x:List Aa):Bp b k (rows++[x]) rest=(b,.cells k (rows++[x]))::rest:=by simp[Bp]
theorem Yl0:S7 (Bt b rows)=some rows.length:=by
 unfold Bt;split
 ·rename_i h;subst h;rfl
 rfl
theorem uq:(Bt b rows).AM q=Bt (q b) rows:=by unfold Bt;split<;>rfl
theorem Ykr:(Bt b rows).cells=some [Bt b rows]:=by unfold Bt;split<;>rfl
theorem Ye5:(Bt b rows).one=true:=by unfold Bt;split<;>rfl
theorem pX(h:¬c=b):Z7 (Bp b k rows rest) c=Z7 rest c:=by
 unfold Bp;split
 ·rfl
 simp only[Z7];rw[iN h]
theorem wh:Z7 (Bp b k rows rest) b=if rows=[]then Z7 rest b else some (.cells k rows):=by
 unfold Bp;split
 ·rfl
 simp only[Z7];rw[iP trivial]
theorem zK(h:¬c=b):O7 (Bp b k rows rest) c=Bp b k rows (O7 rest c):=by
 unfold Bp;split
 ·rfl
 simp only[O7];rw[iN h]
theorem Yfv:O7 (Bp b k rows rest) b=O7 rest b:=by
 unfold Bp;split
 ·rfl
 simp only[O7];rw[iP trivial]
theorem Z8x{t:List (Nat×Af)}:E7 q (Bp b k rows rest) t=Bp (q b) k (Z3 q rows) (E7 q rest t):=by
 unfold Bp;by_cases h:rows=[]
 ·subst h;simp[Z3]
 have:Z3 q rows≠[]:=λe=>h (List.length_eq_zero_iff.1 (by rw[<-UJ q,e];rfl));rw[iN h,iN this];rfl
theorem Ycg{a:List Nat}:N9 a (Bp b k rows rest)=bif V1 b a then N9 a rest else Bp b k rows (N9 a rest):=by
 unfold Bp;cases hm:V1 b a with
 |true=>
  split
  ·rfl
  simp[N9,hm]
 |false=>
  split
  ·rfl
  simp[N9,hm]
theorem Ykp:I3 q (Bp b k rows rest)=if rows=[]then I3 q rest else q b::I3 q rest:=by
 unfold Bp;split<;>rfl
theorem Z79:BO q (Bp b k rows rest) m=((rows≠[]->m.get (q b)=some (.cells k (Z3 q rows)) \/ ∃y,m.get (q b)=some y/\FD (.cells k (Z3 q rows)) y)/\BO q rest m):=by
 unfold Bp;split
 ·rename_i h;simp[h]
 rename_i h;simp[h,BO,Af.AM]
theorem Yak{S:List Nat}:DZ q S (Bp b k rows rest) m=((rows≠[]->V1 (q b) S=false/\(m.get (q b)=some (.cells k (Z3 q rows)) \/ ∃a els,m.get (q b)=some (.cells a els)/\Af.cells k (Z3 q rows)=.cells a (C5 m.get S els)))/\DZ q S rest m):=by
 unfold Bp;split
 ·grind
 rename_i h;simp[h,DZ,Af.AM]
theorem Yj8:Dw q c (Bp b k rows rest)=((rows≠[]->q c=q b->c=b)/\Dw q c rest):=by
 unfold Bp;split
 ·grind
 rename_i h;simp[h,Dw]
theorem Ygq:CQ q (Bp b k rows rest)=((rows≠[]->Dw q b rest)/\CQ q rest):=by
 unfold Bp;split
 ·grind
 rename_i h;simp[h,CQ]
theorem Ybi(b i j:Nat):W9 (.ptr b i j)=[b]:=rfl
theorem Yle(b i j:Nat):W9 (.sl b i j)=[b]:=rfl
theorem Yc0(b:Nat):W9 (.map b)=[b]:=rfl
theorem Ykb(l:List (List Aa)):W9 (.Al l)=[]:=rfl
theorem Yie(l:List (List Aa))(i j:Nat):W9 (.Bc l i j)=[]:=rfl
theorem Z6t:W9 .Aj=[]:=rfl
theorem Yfi(k:IntKind)(n:Int):W9 (.int k n)=[]:=rfl
theorem Yjy(l:List UInt8):W9 (.str l)=[]:=rfl
theorem Yga(f:xs≠[])(d:get b=if rows=[]then none else some (.cells k rows))(e:rows.length+xs.length<=1048576)(c:bytes<=1048576) :
 W4 id k bytes get (Bt b rows) xs=some (.sl id 0 (rows.length+xs.length),gH b id rows (.cells k (rows++xs))):=by
 have a:W6=1048576:=rfl;rw[<-a]at e c;have g:0<xs.length:=by grind
 unfold Bt gH;by_cases h:rows=[]
 ·subst h;simp only[if_true,W4,iN f,List.length_nil,Nat.zero_add,List.nil_append];grind
 rw[iN h,iN h];simp only[W4,d,iN h];grind
theorem Yfh{x:Af}(h:rows=[]->Z7 m.bl b=none):m.app (gH b id rows x)=⟨(id,x)::O7 m.bl b,m.next⟩:=by
 have key:∀l:List (Nat×Af),Z7 l b=none->O7 l b=l:=by
  intro l;induction l with
  |nil=>intro _;rfl
  |cons a r g=>
   obtain⟨d,y⟩:=a;intro e;simp only[Z7]at e;split at e
   ·cases e
   rename_i f;simp only[O7];grind
 unfold gH;by_cases c:rows=[]
 ·rw[iP c,key _ (h c)];rfl
 rw[iN c];rfl
theorem Yis(len:Nat):I1 get k (.sl b 0 len)=match get b with
 |some (.cells a els)=>if a=k/\len<=els.length then some (els.take len)else none
 |_=>if len=0 then some []else none:=by
 simp only[I1,N7,Nat.zero_add,List.drop_zero];rfl
theorem nM:I1 get k .Aj=some []:=rfl
theorem Ul:I1 get k (.Al rows)=if rows.all (·.length == k)then some rows else none:=rfl
theorem yf{S:List Nat}(a:V1 b S=true)(c:get b=if rows=[]then none else some (.cells k rows))(d:∀row,row∈rows -> ∀x,x∈row->X8 (A5 get S) 4 x=some x):DP get S (Bt b rows)=Bg rows:=by
 unfold Bt Bg;by_cases h:rows=[]
 ·rw[iP h,iP h];rfl
 rw[iN h,iN h];exact WS a (by rw[c,iN h]) rfl d
end
end Go.AE
