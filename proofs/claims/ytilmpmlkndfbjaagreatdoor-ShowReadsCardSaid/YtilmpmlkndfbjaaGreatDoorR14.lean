/- Part 14 of the proof: La. -/
import Derived.Test.YtilmpmlkndfbjaaGreatDoorR7
import Derived.Test.YtilmpmlkndfbjaaGreatDoorR11
import Derived.Test.YtilmpmlkndfbjaaGreatDoorR12
set_option linter.all false
namespace Go.Known
open Go Go.AE Go.Proofs
open Go.Plain
attribute [local simp] E8 E3 F9 F8 E4 E5 F5 D1 O6 O3 P8 P7 O1 O5 E9 E7 U0 evE Env.get Y3 U1 stepD SMem.at SMem.app SMem.get Z7 AVal.cells AVal.one Q5 T7 P0 W2 U5 W7 V6 unA eqA Q7 T0 I6 W8 aundef Zdx Zbk S7 FT.indep N4 O4 I0 H4 in1 V7 V8 Y9 SubS SubE SubB
def rowL(l:Lt):List AVal:=[.int .i64 l.k,.int .i64 l.g,.int .i64 l.r,.int .i64 l.i,.int .i64 l.s,.bool l.o]
abbrev cV(f:Int)(ls:List Lt):AVal:=.agg [.int .i64 f,.imm (ls.map rowL)]
theorem U6:∀ (ls:List Lt),W5 (ls.map rowL)=true
 | []=>rfl
 | l :: r=>by simp only[List.map_cons,W5,U6 r,Bool.and_true]; rfl
theorem C8(f:Int)(ls:List Lt):(cV f ls).closed=true:=by
 simp only[AVal.closed,X4,U6,Bool.and_self]
theorem Z1{x:Int}(a : -9223372036854775808≤x)(b:x<9223372036854775808):IntKind.i64.wrap x=x:=by
 simp only[IntKind.wrap,IntKind.bits,IntKind.signed]
 first|omega|(simp; omega)
structure Rows (ls:List Lt) (rows:List (List AVal)):Prop where
 len:rows.length=ls.length
 row:∀ i,i<ls.length→rows[i]? = some (rowL (at' ls i))
theorem M9(ls:List Lt):Rows ls (ls.map rowL):=⟨by simp,fun i h=>by
 rw[List.getElem?_map,gE h,at',List.getD,gE h];rfl⟩
theorem Zba{p:Lt→Bool}{ls:List Lt}{i:Nat}(h:i<ls.length):Z5 p (ls.take (i+1))=Z5 p (ls.take i)+(if p (at' ls i)then 1 else 0):=by
 rw[List.take_add_one,Zev,at',List.getD,gE h];simp[Z5,List.filter_cons];split<;>rfl
theorem Zcf{p:Lt→Bool}{ls:List Lt}(i:Nat):Z5 p (ls.take i)≤i:=by
 have a:Z5 p (ls.take i)≤(ls.take i).length:=Za6;rw[List.length_take]at a;omega
theorem Zfv(a:Nat):Int.tmod (a:Int) 2=((a % 2:Nat):Int):=rfl
theorem Zjq(a b:Nat):Int.tmod (a:Int) (b:Int)=((a % b:Nat):Int):=rfl
theorem A1(a:Nat):Int.tdiv (a:Int) 2=((a / 2:Nat):Int):=rfl
def T6(n i:Nat)(fw:Bool):Nat:=if fw then 2*i else 2*((i+n - 1) % n)+1
def T2(ls:List Lt)(i:Nat):Nat→Nat→Nat
 | 0,_=>i
 | k+1,j=>if j != i&&isX (at' ls j)&&(at' ls j).i == (at' ls i).i then j else T2 ls i k (j+1)
abbrev Z0(l:List Nat):List (List AVal):=l.map fun(i:Nat)=>[AVal.int .i64 (i:Int)]
theorem Zas:∀ (l:List Nat),W5 (Z0 l)=true
 | []=>rfl
 | x :: r=>by simp only[Z0,List.map_cons,W5]; exact Zas r
theorem c13(f:Int)(ls:List Lt)(h:ls.length≤1000):PCall Tryz.prog 60 [cV f ls] (.int .i64 (Z5 isX ls:Nat)):=by
 refine A9 (by simp[X4,C8]) trivial (B6 hm Tryz.func60 cf13 (Nat.le_of_ble_eq_true rfl) ?_)
 have n:=M9 ls;unfold cV;generalize ls.map rowL=rows at n;have d:=n.len;simp[af13];refine Zar (α:=Nat×Nat) (fun a=>[(4,.int .i64 a.1),(3,.int .i64 (Z5 isX (ls.take a.1):Nat)),(1,.ptr 1 0 0)]) (fun a=>⟨[(1,.cells 2 [[.int .i64 f,.imm rows]])],a.2+5⟩)
  (fun a=>ls.length - a.1) (fun a=>a.1≤ls.length) (0,0) (by simp[Z5]) (by simp) ?_
 rintro⟨i,q⟩ hi;have r:=Zcf (p:=isX) (ls:=ls) i;simp only at hi ⊢;by_cases e:i<ls.length
 ·have c:=n.row i e;obtain⟨t,b⟩:=gS.1 c;have g:=Zba (p:=isX) e;have j:IntKind.i64.wrap ((i:Int)+1)=(i:Int)+1:=Z1 (by omega) (by omega)
  have o:IntKind.i64.wrap ((Z5 isX (ls.take i):Nat)+1:Int)=(Z5 isX (ls.take i):Nat)+1:=Z1 (by omega) (by omega)
  generalize at' ls i=l at c b g;by_cases m:l.k=2
  ·simp[isX,m]at g;simp[d,e,c,b,rowL,m,j,o];exact⟨(i+1,q+18),by simp; omega,by simp; omega,by simp[g]⟩
  ·simp[isX,m]at g;simp[d,e,c,b,rowL,m,j];exact⟨(i+1,q+15),by simp; omega,by simp; omega,by simp[g]⟩
 ·have s:i=ls.length:=by omega
  subst s;simp[d]
theorem c14(f:Int)(ls:List Lt)(h:ls.length≤1000):PCall Tryz.prog 61 [cV f ls] (.int .i64 (Z5 isP ls:Nat)):=by
 refine A9 (by simp[X4,C8]) trivial (B6 hm Tryz.func61 cf14 (Nat.le_of_ble_eq_true rfl) ?_)
 have n:=M9 ls;unfold cV;generalize ls.map rowL=rows at n;have d:=n.len;simp[af14];refine Zar (α:=Nat×Nat) (fun a=>[(4,.int .i64 a.1),(3,.int .i64 (Z5 isP (ls.take a.1):Nat)),(1,.ptr 1 0 0)]) (fun a=>⟨[(1,.cells 2 [[.int .i64 f,.imm rows]])],a.2+5⟩)
  (fun a=>ls.length - a.1) (fun a=>a.1≤ls.length) (0,0) (by simp[Z5]) (by simp) ?_
 rintro⟨i,q⟩ hi;have r:=Zcf (p:=isP) (ls:=ls) i;simp only at hi ⊢;by_cases e:i<ls.length
 ·have c:=n.row i e;obtain⟨t,b⟩:=gS.1 c;have g:=Zba (p:=isP) e;have j:IntKind.i64.wrap ((i:Int)+1)=(i:Int)+1:=Z1 (by omega) (by omega)
  have o:IntKind.i64.wrap ((Z5 isP (ls.take i):Nat)+1:Int)=(Z5 isP (ls.take i):Nat)+1:=Z1 (by omega) (by omega)
  generalize at' ls i=l at c b g;by_cases m:l.k=1
  ·simp[isP,m]at g;simp[d,e,c,b,rowL,m,j,o];exact⟨(i+1,q+18),by simp; omega,by simp; omega,by simp[g]⟩
  ·simp[isP,m]at g;simp[d,e,c,b,rowL,m,j];exact⟨(i+1,q+15),by simp; omega,by simp; omega,by simp[g]⟩
 ·have s:i=ls.length:=by omega
  subst s;simp[d]
theorem c103(f:Int)(ls:List Lt)(h:ls.length≤1000):PCall Tryz.prog 110 [cV f ls] (.int .i64 (Z5 isX ls:Nat)):=by
 refine A9 (by simp[X4,C8]) trivial (B6 hm Tryz.func110 Zv0 (Nat.le_of_ble_eq_true rfl) ?_)
 have n:=M9 ls;unfold cV;generalize ls.map rowL=rows at n;have c:=n.len;simp[af103];refine Zar (α:=Nat×Nat) (fun a=>[(9,.int .i64 a.1),(8,.int .i64 ls.length),(7,.imm rows),(3,.int .i64 (Z5 isX (ls.take a.1):Nat))]) (fun a=>⟨[],a.2⟩)
  (fun a=>ls.length - a.1) (fun a=>a.1≤ls.length) (0,8) (by simp[Z5,c]) (by simp) ?_
 rintro⟨i,q⟩ hi;have r:=Zcf (p:=isX) (ls:=ls) i;simp only at hi ⊢;by_cases e:i<ls.length
 ·have d:=n.row i e;obtain⟨t,b⟩:=gS.1 d;have g:=Zba (p:=isX) e;have j:IntKind.i64.wrap ((i:Int)+1)=(i:Int)+1:=Z1 (by omega) (by omega)
  have o:IntKind.i64.wrap ((Z5 isX (ls.take i):Nat)+1:Int)=(Z5 isX (ls.take i):Nat)+1:=Z1 (by omega) (by omega)
  generalize at' ls i=l at d b g;by_cases m:l.k=2
  ·simp[isX,m]at g;simp[c,e,d,b,rowL,m,j,o];exact⟨(i+1,q+100),by simp; omega,by simp; omega,by simp[g]<;>omega⟩
  ·simp[isX,m]at g;simp[c,e,d,b,rowL,m,j];exact⟨(i+1,q+100),by simp; omega,by simp; omega,by simp[g]<;>omega⟩
 ·have s:i=ls.length:=by omega
  subst s;simp[c]
theorem c168(f:Int)(ls:List Lt)(h:ls.length≤1000):PCall Tryz.prog 173 [cV f ls] (.int .i64 (Z5 isP ls:Nat)):=by
 refine A9 (by simp[X4,C8]) trivial (B6 hm Tryz.func173 Zx0 (Nat.le_of_ble_eq_true rfl) ?_)
 have n:=M9 ls;unfold cV;generalize ls.map rowL=rows at n;have c:=n.len;simp[af168];refine Zar (α:=Nat×Nat) (fun a=>[(9,.int .i64 a.1),(8,.int .i64 ls.length),(7,.imm rows),(3,.int .i64 (Z5 isP (ls.take a.1):Nat))]) (fun a=>⟨[],a.2⟩)
  (fun a=>ls.length - a.1) (fun a=>a.1≤ls.length) (0,8) (by simp[Z5,c]) (by simp) ?_
 rintro⟨i,q⟩ hi;have r:=Zcf (p:=isP) (ls:=ls) i;simp only at hi ⊢;by_cases e:i<ls.length
 ·have d:=n.row i e;obtain⟨t,b⟩:=gS.1 d;have g:=Zba (p:=isP) e;have j:IntKind.i64.wrap ((i:Int)+1)=(i:Int)+1:=Z1 (by omega) (by omega)
  have o:IntKind.i64.wrap ((Z5 isP (ls.take i):Nat)+1:Int)=(Z5 isP (ls.take i):Nat)+1:=Z1 (by omega) (by omega)
  generalize at' ls i=l at d b g;by_cases m:l.k=1
  ·simp[isP,m]at g;simp[c,e,d,b,rowL,m,j,o];exact⟨(i+1,q+100),by simp; omega,by simp; omega,by simp[g]<;>omega⟩
  ·simp[isP,m]at g;simp[c,e,d,b,rowL,m,j];exact⟨(i+1,q+100),by simp; omega,by simp; omega,by simp[g]<;>omega⟩
 ·have s:i=ls.length:=by omega
  subst s;simp[c]
theorem c37(f:Int)(ls:List Lt)(x:Int)(h:ls.length≤1000):PCall Tryz.prog 97 [cV f ls,.int .i64 x] (.int .i64 (Z5 (fun l=>isP l&&l.g == x) ls:Nat)):=by
 refine A9 (by simp[X4,C8,AVal.closed,U6]) trivial (B6 hm Tryz.func97 cf37 (Nat.le_of_ble_eq_true rfl) ?_)
 have s:=M9 ls;unfold cV;generalize ls.map rowL=rows at s;have d:=s.len;simp[af37];generalize z:(fun l=>isP l&&l.g == x)=o
 refine Zar (α:=Nat×Nat) (fun a=>[(6,.int .i64 a.1),(5,.int .i64 (Z5 o (ls.take a.1):Nat)),(2,.ptr 1 0 0),(1,.int .i64 x)]) (fun a=>⟨[(1,.cells 2 [[.int .i64 f,.imm rows]])],a.2+5⟩)
  (fun a=>ls.length - a.1) (fun a=>a.1≤ls.length) (0,0) (by simp[Z5]) (by simp) ?_
 rintro⟨i,q⟩ hi;have v:=Zcf (p:=o) (ls:=ls) i;simp only at hi ⊢;by_cases e:i<ls.length
 ·have c:=s.row i e;obtain⟨y,b⟩:=gS.1 c;have j:=Zba (p:=o) e;have m:IntKind.i64.wrap ((i:Int)+1)=(i:Int)+1:=Z1 (by omega) (by omega)
  have u:IntKind.i64.wrap ((Z5 o (ls.take i):Nat)+1:Int)=(Z5 o (ls.take i):Nat)+1:=Z1 (by omega) (by omega)
  generalize at' ls i=l at c b j;have t:o l=(isP l&&l.g == x):=by rw[← z]
  rw[t]at j;by_cases n:l.k=1
  ·by_cases r:l.g=x
   ·simp[isP,n,r]at j;simp[d,e,c,b,rowL,n,r,m,u];exact⟨(i+1,q+100),by simp; omega,by simp; omega,by simp[j]<;>omega⟩
   ·simp[isP,n,r]at j;simp[d,e,c,b,rowL,n,r,m];exact⟨(i+1,q+100),by simp; omega,by simp; omega,by simp[j]<;>omega⟩
  ·simp[isP,n]at j;simp[d,e,c,b,rowL,n,m];exact⟨(i+1,q+100),by simp; omega,by simp; omega,by simp[j]<;>omega⟩
 ·have w:i=ls.length:=by omega
  subst w;simp[d]
theorem c38(f:Int)(ls:List Lt)(x:Int)(h:ls.length≤1000):PCall Tryz.prog 98 [cV f ls,.int .i64 x] (.int .i64 (Z5 (fun l=>isX l&&l.i == x) ls:Nat)):=by
 refine A9 (by simp[X4,C8,AVal.closed,U6]) trivial (B6 hm Tryz.func98 cf38 (Nat.le_of_ble_eq_true rfl) ?_)
 have r:=M9 ls;unfold cV;generalize ls.map rowL=rows at r;have d:=r.len;simp[af38];generalize y:(fun l=>isX l&&l.i == x)=n
 refine Zar (α:=Nat×Nat) (fun a=>[(6,.int .i64 a.1),(5,.int .i64 (Z5 n (ls.take a.1):Nat)),(2,.ptr 1 0 0),(1,.int .i64 x)]) (fun a=>⟨[(1,.cells 2 [[.int .i64 f,.imm rows]])],a.2+5⟩)
  (fun a=>ls.length - a.1) (fun a=>a.1≤ls.length) (0,0) (by simp[Z5]) (by simp) ?_
 rintro⟨i,q⟩ hi;have u:=Zcf (p:=n) (ls:=ls) i;simp only at hi ⊢;by_cases e:i<ls.length
 ·have c:=r.row i e;obtain⟨w,b⟩:=gS.1 c;have g:=Zba (p:=n) e;have j:IntKind.i64.wrap ((i:Int)+1)=(i:Int)+1:=Z1 (by omega) (by omega)
  have t:IntKind.i64.wrap ((Z5 n (ls.take i):Nat)+1:Int)=(Z5 n (ls.take i):Nat)+1:=Z1 (by omega) (by omega)
  generalize at' ls i=l at c b g;have s:n l=(isX l&&l.i == x):=by rw[← y]
  rw[s]at g;by_cases m:l.k=2
  ·by_cases o:l.i=x
   ·simp[isX,m,o]at g;simp[d,e,c,b,rowL,m,o,j,t];exact⟨(i+1,q+100),by simp; omega,by simp; omega,by simp[g]<;>omega⟩
   ·simp[isX,m,o]at g;simp[d,e,c,b,rowL,m,o,j];exact⟨(i+1,q+100),by simp; omega,by simp; omega,by simp[g]<;>omega⟩
  ·simp[isX,m]at g;simp[d,e,c,b,rowL,m,j];exact⟨(i+1,q+100),by simp; omega,by simp; omega,by simp[g]<;>omega⟩
 ·have v:i=ls.length:=by omega
  subst v;simp[d]
theorem c17(f:Int)(ls:List Lt)(h:ls.length≤1000):PCall Tryz.prog 64 [cV f ls] (.int .i64 (X7 ls / 2:Nat)):=by
 refine A9 (by simp[X4,C8]) trivial (B6 hm Tryz.func64 cf17 (Nat.le_of_ble_eq_true rfl) ?_)
 have a:Z5 isX ls≤ls.length:=Za6;simp[af17];refine J7 (c13 f ls h) ?_;have b:IntKind.i64.wrap ((Z5 isX ls / 2:Nat):Int)=((Z5 isX ls / 2:Nat):Int):=Z1 (by omega) (by omega)
 simp[A1,X7];exact Z1 (by omega) (by omega)
theorem c67(f:Int)(ls:List Lt)(i:Nat)(fw:Bool)(h:ls.length≤1000)(hi:i<ls.length):PCall Tryz.prog 132 [cV f ls,.int .i64 i,.bool fw] (.int .i64 (T6 ls.length i fw:Nat)):=by
 refine A9 (by simp[X4,C8,AVal.closed,U6]) trivial (B6 hm Tryz.func132 cf67 (Nat.le_of_ble_eq_true rfl) ?_)
 have k:=M9 ls;unfold cV;generalize ls.map rowL=rows at k;have a:=k.len;cases fw with
 | true=>
  have o:IntKind.i64.wrap (2*(i:Int))=2*(i:Int):=Z1 (by omega) (by omega)
  simp[af67,a,o,T6]
 | false=>
  have m:0<ls.length:=by omega
  have n:¬((ls.length:Int)=0):=by omega
  have b:ls≠[]:=by intro e; subst e; simp at m
  have c:IntKind.i64.wrap ((i:Int)+ls.length)=((i+ls.length:Nat):Int):=by rw[Z1 (by omega) (by omega)]; simp
  have d:IntKind.i64.wrap (((i+ls.length:Nat):Int) - 1)=((i+ls.length - 1:Nat):Int):=by rw[Z1 (by omega) (by omega)]; omega
  have l:=Nat.mod_lt (i+ls.length - 1) m;have g:IntKind.i64.wrap (2*(((i+ls.length - 1) % ls.length:Nat):Int))=((2*((i+ls.length - 1) % ls.length):Nat):Int):=by rw[Z1 (by omega) (by omega)]; simp
  have j:IntKind.i64.wrap (((2*((i+ls.length - 1) % ls.length):Nat):Int)+1)=((2*((i+ls.length - 1) % ls.length)+1:Nat):Int):=by rw[Z1 (by omega) (by omega)]; simp
  simp[-Int.natCast_add,-Int.natCast_mul,af67,a,c,d,Zjq,T6,b];rw[← Int.natCast_emod,g,j]
theorem c66(a b:Lt):PCall Tryz.prog 131 [.agg (rowL a),.agg (rowL b)] (.bool (U4 a b)):=by
 refine A9 rfl trivial (B6 hm Tryz.func131 cf66 (Nat.le_of_ble_eq_true rfl) ?_);by_cases d:a.g<b.g
 ·simp[af66,rowL,d,U4]
 ·by_cases c:a.g=b.g
  ·by_cases e:a.r<b.r
   ·simp[af66,rowL,c,e,U4]
   ·simp[af66,rowL,c,e,U4]
  ·simp[af66,rowL,d,c,U4]
theorem c68(f:Int)(ls:List Lt)(p:Nat)(h:ls.length≤1000)(v:p≤ls.length):PCall Tryz.prog 80 [cV f ls,.int .i64 p] (.bool (down ls p)):=by
 refine A9 (by simp[X4,C8,AVal.closed,U6]) trivial (B6 hm Tryz.func80 cf68 (Nat.le_of_ble_eq_true rfl) ?_)
 have n:=M9 ls;unfold cV;generalize ls.map rowL=rows at n;have r:=n.len;simp[af68];refine Zar (α:=Nat×Nat) (fun a=>[(6,.int .i64 a.1),(5,.int .i64 (Z5 isP (ls.take a.1):Nat)),(2,.ptr 1 0 0),(1,.int .i64 p)]) (fun a=>⟨[(1,.cells 2 [[.int .i64 f,.imm rows]])],a.2+5⟩)
  (fun a=>p - a.1) (fun a=>a.1≤p) (0,0) (by simp[Z5]) (by simp) ?_
 rintro⟨i,q⟩ hi;have s:=Zcf (p:=isP) (ls:=ls) i;simp only at hi ⊢;by_cases g:i<p
 ·have d:i<ls.length:=by omega
  have c:=n.row i d;obtain⟨u,b⟩:=gS.1 c;have e:=Zba (p:=isP) d;have j:IntKind.i64.wrap ((i:Int)+1)=(i:Int)+1:=Z1 (by omega) (by omega)
  have o:IntKind.i64.wrap ((Z5 isP (ls.take i):Nat)+1:Int)=(Z5 isP (ls.take i):Nat)+1:=Z1 (by omega) (by omega)
  generalize at' ls i=l at c b e;by_cases m:l.k=1
  ·simp[isP,m]at e;simp[g,c,b,rowL,m,j,o];exact⟨(i+1,q+100),by simp; omega,by simp; omega,by simp[e]<;>omega⟩
  ·simp[isP,m]at e;simp[g,c,b,rowL,m,j];exact⟨(i+1,q+100),by simp; omega,by simp; omega,by simp[e]<;>omega⟩
 ·have t:i=p:=by omega
  subst t;simp[Zfv,down,Z3];rw[Bool.eq_iff_iff];simp;omega
theorem c69(f:Int)(ls:List Lt)(v:Nat)(h:ls.length≤1000)(u:v<ls.length):PCall Tryz.prog 133 [cV f ls,.int .i64 v] (.int .i64 (T2 ls v ls.length 0:Nat)):=by
 refine A9 (by simp[X4,C8,AVal.closed,U6]) trivial (B6 hm Tryz.func133 cf69 (Nat.le_of_ble_eq_true rfl) ?_)
 have s:=M9 ls;unfold cV;generalize ls.map rowL=rows at s;have c:=s.len;simp[af69];refine Zar (α:=Nat×Nat) (fun a=>[(5,.int .i64 a.1),(2,.ptr 1 0 0),(1,.int .i64 v)]) (fun a=>⟨[(1,.cells 2 [[.int .i64 f,.imm rows]])],a.2+4⟩)
  (fun a=>ls.length - a.1) (fun a=>a.1≤ls.length∧T2 ls v ls.length 0=T2 ls v (ls.length - a.1) a.1) (0,0) (by simp) (by simp) ?_
 rintro⟨i,q⟩ ⟨hi,j⟩;simp only at hi j ⊢;have e:=s.row v u;obtain⟨w,g⟩:=gS.1 e;by_cases l:i<ls.length
 ·have d:=s.row i l;obtain⟨z,b⟩:=gS.1 d;have o:IntKind.i64.wrap ((i:Int)+1)=(i:Int)+1:=Z1 (by omega) (by omega)
  have r:ls.length - i=(ls.length - (i+1))+1:=by omega
  rw[r,T2]at j;by_cases n:i=v
  ·subst n;simp at j;simp[c,l,d,b,rowL,o];exact⟨(i+1,q+100),by simp; omega,by simp; exact⟨by omega,j⟩,by simp<;>omega⟩
  ·have m:¬((i:Int)=v):=by omega
   by_cases p:(at' ls i).k=2
   ·by_cases t:(at' ls i).i=(at' ls v).i
    ·simp[n,isX,p,t]at j;simp[c,l,u,d,b,e,g,rowL,m,p,t,j]
    ·simp[n,isX,p,t]at j;simp[c,l,u,d,b,e,g,rowL,m,p,t,o];exact⟨(i+1,q+100),by simp; omega,by simp; exact⟨by omega,j⟩,by simp<;>omega⟩
   ·simp[n,isX,p]at j;simp[c,l,d,b,rowL,m,p,o];exact⟨(i+1,q+100),by simp; omega,by simp; exact⟨by omega,j⟩,by simp<;>omega⟩
 ·have y:i=ls.length:=by omega
  subst y;simp[T2]at j;simp[c,j]
end Go.Known
