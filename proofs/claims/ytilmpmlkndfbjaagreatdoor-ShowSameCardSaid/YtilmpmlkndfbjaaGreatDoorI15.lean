/- Part 15 of the proof: La. -/
import Derived.Test.YtilmpmlkndfbjaaGreatDoorI7
import Derived.Test.YtilmpmlkndfbjaaGreatDoorI12
import Derived.Test.YtilmpmlkndfbjaaGreatDoorI14
set_option linter.all false
namespace Go.Known
open Go Go.AE Go.Proofs
open Go.Plain
attribute [local simp] F2 E3 F8 E4 E6 F7 F4 F0 O4 P9 P7 O0 P6 P8 E5 F1 V4 evE Env.get Y6 V2 stepD SMem.at SMem.app SMem.get Z9 AVal.cells AVal.one R9 T9 Q8 T0 V5 X7 V9 unA eqA R8 U8 J6 W4 aundef Zed Zb4 S6 FT.indep N6 P5 K9 H3 in1 U4 U3 X0 SubS SubE SubB
def rowL(l:Lt):List AVal:=[.int .i64 l.k,.int .i64 l.g,.int .i64 l.r,.int .i64 l.i,.int .i64 l.s,.bool l.o]
abbrev cV(f:Int)(ls:List Lt):AVal:=.agg [.int .i64 f,.imm (ls.map rowL)]
theorem Y5:∀ (ls:List Lt),V3 (ls.map rowL)=true
 | []=>rfl
 | l :: r=>by simp only[List.map_cons,V3,Y5 r,Bool.and_true]; rfl
theorem B9(f:Int)(ls:List Lt):(cV f ls).closed=true:=by
 simp only[AVal.closed,Y7,Y5,Bool.and_self]
theorem Z5{x:Int}(a : -9223372036854775808≤x)(b:x<9223372036854775808):IntKind.i64.wrap x=x:=by
 simp only[IntKind.wrap,IntKind.bits,IntKind.signed]
 first|omega|(simp; omega)
structure Rows (ls:List Lt) (rows:List (List AVal)):Prop where
 len:rows.length=ls.length
 row:∀ i,i<ls.length→rows[i]? = some (rowL (at' ls i))
theorem L0(ls:List Lt):Rows ls (ls.map rowL):=⟨by simp,fun i h=>by
 rw[List.getElem?_map,gE h,at',List.getD,gE h];rfl⟩
theorem Zai{p:Lt→Bool}{ls:List Lt}{i:Nat}(h:i<ls.length):Z3 p (ls.take (i+1))=Z3 p (ls.take i)+(if p (at' ls i)then 1 else 0):=by
 rw[List.take_add_one,Zg7,at',List.getD,gE h];simp[Z3,List.filter_cons];split<;>rfl
theorem Zbn{p:Lt→Bool}{ls:List Lt}(i:Nat):Z3 p (ls.take i)≤i:=by
 have a:Z3 p (ls.take i)≤(ls.take i).length:=D2;rw[List.length_take]at a;omega
theorem Zf5(a:Nat):Int.tmod (a:Int) 2=((a % 2:Nat):Int):=rfl
theorem Zka(a b:Nat):Int.tmod (a:Int) (b:Int)=((a % b:Nat):Int):=rfl
theorem Zaf(a:Nat):Int.tdiv (a:Int) 2=((a / 2:Nat):Int):=rfl
def Y0(n i:Nat)(fw:Bool):Nat:=if fw then 2*i else 2*((i+n - 1) % n)+1
def X9(ls:List Lt)(i:Nat):Nat→Nat→Nat
 | 0,_=>i
 | k+1,j=>if j != i&&isX (at' ls j)&&(at' ls j).i == (at' ls i).i then j else X9 ls i k (j+1)
abbrev Z2(l:List Nat):List (List AVal):=l.map fun(i:Nat)=>[AVal.int .i64 (i:Int)]
theorem D5:∀ (l:List Nat),V3 (Z2 l)=true
 | []=>rfl
 | x :: r=>by simp only[Z2,List.map_cons,V3]; exact D5 r
theorem c13(f:Int)(ls:List Lt)(h:ls.length≤1000):PCall Tryz.prog 60 [cV f ls] (.int .i64 (Z3 isX ls:Nat)):=by
 refine Zad (by simp[Y7,B9]) trivial (B6 hm Tryz.func60 cf13 (Nat.le_of_ble_eq_true rfl) ?_)
 have n:=L0 ls;unfold cV;generalize ls.map rowL=rows at n;have d:=n.len;simp[af13];refine Za0 (α:=Nat×Nat) (fun a=>[(4,.int .i64 a.1),(3,.int .i64 (Z3 isX (ls.take a.1):Nat)),(1,.ptr 1 0 0)]) (fun a=>⟨[(1,.cells 2 [[.int .i64 f,.imm rows]])],a.2+5⟩)
  (fun a=>ls.length - a.1) (fun a=>a.1≤ls.length) (0,0) (by simp[Z3]) (by simp) ?_
 rintro⟨i,q⟩ hi;have r:=Zbn (p:=isX) (ls:=ls) i;simp only at hi ⊢;by_cases e:i<ls.length
 ·have c:=n.row i e;obtain⟨t,b⟩:=gS.1 c;have g:=Zai (p:=isX) e;have j:IntKind.i64.wrap ((i:Int)+1)=(i:Int)+1:=Z5 (by omega) (by omega)
  have o:IntKind.i64.wrap ((Z3 isX (ls.take i):Nat)+1:Int)=(Z3 isX (ls.take i):Nat)+1:=Z5 (by omega) (by omega)
  generalize at' ls i=l at c b g;by_cases m:l.k=2
  ·simp[isX,m]at g;simp[d,e,c,b,rowL,m,j,o];exact⟨(i+1,q+18),by simp; omega,by simp; omega,by simp[g]⟩
  ·simp[isX,m]at g;simp[d,e,c,b,rowL,m,j];exact⟨(i+1,q+15),by simp; omega,by simp; omega,by simp[g]⟩
 ·have s:i=ls.length:=by omega
  subst s;simp[d]
theorem c14(f:Int)(ls:List Lt)(h:ls.length≤1000):PCall Tryz.prog 61 [cV f ls] (.int .i64 (Z3 isP ls:Nat)):=by
 refine Zad (by simp[Y7,B9]) trivial (B6 hm Tryz.func61 cf14 (Nat.le_of_ble_eq_true rfl) ?_)
 have n:=L0 ls;unfold cV;generalize ls.map rowL=rows at n;have d:=n.len;simp[af14];refine Za0 (α:=Nat×Nat) (fun a=>[(4,.int .i64 a.1),(3,.int .i64 (Z3 isP (ls.take a.1):Nat)),(1,.ptr 1 0 0)]) (fun a=>⟨[(1,.cells 2 [[.int .i64 f,.imm rows]])],a.2+5⟩)
  (fun a=>ls.length - a.1) (fun a=>a.1≤ls.length) (0,0) (by simp[Z3]) (by simp) ?_
 rintro⟨i,q⟩ hi;have r:=Zbn (p:=isP) (ls:=ls) i;simp only at hi ⊢;by_cases e:i<ls.length
 ·have c:=n.row i e;obtain⟨t,b⟩:=gS.1 c;have g:=Zai (p:=isP) e;have j:IntKind.i64.wrap ((i:Int)+1)=(i:Int)+1:=Z5 (by omega) (by omega)
  have o:IntKind.i64.wrap ((Z3 isP (ls.take i):Nat)+1:Int)=(Z3 isP (ls.take i):Nat)+1:=Z5 (by omega) (by omega)
  generalize at' ls i=l at c b g;by_cases m:l.k=1
  ·simp[isP,m]at g;simp[d,e,c,b,rowL,m,j,o];exact⟨(i+1,q+18),by simp; omega,by simp; omega,by simp[g]⟩
  ·simp[isP,m]at g;simp[d,e,c,b,rowL,m,j];exact⟨(i+1,q+15),by simp; omega,by simp; omega,by simp[g]⟩
 ·have s:i=ls.length:=by omega
  subst s;simp[d]
theorem c103(f:Int)(ls:List Lt)(h:ls.length≤1000):PCall Tryz.prog 110 [cV f ls] (.int .i64 (Z3 isX ls:Nat)):=by
 refine Zad (by simp[Y7,B9]) trivial (B6 hm Tryz.func110 Zua (Nat.le_of_ble_eq_true rfl) ?_)
 have n:=L0 ls;unfold cV;generalize ls.map rowL=rows at n;have c:=n.len;simp[af103];refine Za0 (α:=Nat×Nat) (fun a=>[(9,.int .i64 a.1),(8,.int .i64 ls.length),(7,.imm rows),(3,.int .i64 (Z3 isX (ls.take a.1):Nat))]) (fun a=>⟨[],a.2⟩)
  (fun a=>ls.length - a.1) (fun a=>a.1≤ls.length) (0,8) (by simp[Z3,c]) (by simp) ?_
 rintro⟨i,q⟩ hi;have r:=Zbn (p:=isX) (ls:=ls) i;simp only at hi ⊢;by_cases e:i<ls.length
 ·have d:=n.row i e;obtain⟨t,b⟩:=gS.1 d;have g:=Zai (p:=isX) e;have j:IntKind.i64.wrap ((i:Int)+1)=(i:Int)+1:=Z5 (by omega) (by omega)
  have o:IntKind.i64.wrap ((Z3 isX (ls.take i):Nat)+1:Int)=(Z3 isX (ls.take i):Nat)+1:=Z5 (by omega) (by omega)
  generalize at' ls i=l at d b g;by_cases m:l.k=2
  ·simp[isX,m]at g;simp[c,e,d,b,rowL,m,j,o];exact⟨(i+1,q+100),by simp; omega,by simp; omega,by simp[g]<;>omega⟩
  ·simp[isX,m]at g;simp[c,e,d,b,rowL,m,j];exact⟨(i+1,q+100),by simp; omega,by simp; omega,by simp[g]<;>omega⟩
 ·have s:i=ls.length:=by omega
  subst s;simp[c]
theorem c168(f:Int)(ls:List Lt)(h:ls.length≤1000):PCall Tryz.prog 173 [cV f ls] (.int .i64 (Z3 isP ls:Nat)):=by
 refine Zad (by simp[Y7,B9]) trivial (B6 hm Tryz.func173 Zs8 (Nat.le_of_ble_eq_true rfl) ?_)
 have n:=L0 ls;unfold cV;generalize ls.map rowL=rows at n;have c:=n.len;simp[af168];refine Za0 (α:=Nat×Nat) (fun a=>[(9,.int .i64 a.1),(8,.int .i64 ls.length),(7,.imm rows),(3,.int .i64 (Z3 isP (ls.take a.1):Nat))]) (fun a=>⟨[],a.2⟩)
  (fun a=>ls.length - a.1) (fun a=>a.1≤ls.length) (0,8) (by simp[Z3,c]) (by simp) ?_
 rintro⟨i,q⟩ hi;have r:=Zbn (p:=isP) (ls:=ls) i;simp only at hi ⊢;by_cases e:i<ls.length
 ·have d:=n.row i e;obtain⟨t,b⟩:=gS.1 d;have g:=Zai (p:=isP) e;have j:IntKind.i64.wrap ((i:Int)+1)=(i:Int)+1:=Z5 (by omega) (by omega)
  have o:IntKind.i64.wrap ((Z3 isP (ls.take i):Nat)+1:Int)=(Z3 isP (ls.take i):Nat)+1:=Z5 (by omega) (by omega)
  generalize at' ls i=l at d b g;by_cases m:l.k=1
  ·simp[isP,m]at g;simp[c,e,d,b,rowL,m,j,o];exact⟨(i+1,q+100),by simp; omega,by simp; omega,by simp[g]<;>omega⟩
  ·simp[isP,m]at g;simp[c,e,d,b,rowL,m,j];exact⟨(i+1,q+100),by simp; omega,by simp; omega,by simp[g]<;>omega⟩
 ·have s:i=ls.length:=by omega
  subst s;simp[c]
theorem c37(f:Int)(ls:List Lt)(x:Int)(h:ls.length≤1000):PCall Tryz.prog 97 [cV f ls,.int .i64 x] (.int .i64 (Z3 (fun l=>isP l&&l.g == x) ls:Nat)):=by
 refine Zad (by simp[Y7,B9,AVal.closed,Y5]) trivial (B6 hm Tryz.func97 cf37 (Nat.le_of_ble_eq_true rfl) ?_)
 have s:=L0 ls;unfold cV;generalize ls.map rowL=rows at s;have d:=s.len;simp[af37];generalize z:(fun l=>isP l&&l.g == x)=o
 refine Za0 (α:=Nat×Nat) (fun a=>[(6,.int .i64 a.1),(5,.int .i64 (Z3 o (ls.take a.1):Nat)),(2,.ptr 1 0 0),(1,.int .i64 x)]) (fun a=>⟨[(1,.cells 2 [[.int .i64 f,.imm rows]])],a.2+5⟩)
  (fun a=>ls.length - a.1) (fun a=>a.1≤ls.length) (0,0) (by simp[Z3]) (by simp) ?_
 rintro⟨i,q⟩ hi;have v:=Zbn (p:=o) (ls:=ls) i;simp only at hi ⊢;by_cases e:i<ls.length
 ·have c:=s.row i e;obtain⟨y,b⟩:=gS.1 c;have j:=Zai (p:=o) e;have m:IntKind.i64.wrap ((i:Int)+1)=(i:Int)+1:=Z5 (by omega) (by omega)
  have u:IntKind.i64.wrap ((Z3 o (ls.take i):Nat)+1:Int)=(Z3 o (ls.take i):Nat)+1:=Z5 (by omega) (by omega)
  generalize at' ls i=l at c b j;have t:o l=(isP l&&l.g == x):=by rw[← z]
  rw[t]at j;by_cases n:l.k=1
  ·by_cases r:l.g=x
   ·simp[isP,n,r]at j;simp[d,e,c,b,rowL,n,r,m,u];exact⟨(i+1,q+100),by simp; omega,by simp; omega,by simp[j]<;>omega⟩
   ·simp[isP,n,r]at j;simp[d,e,c,b,rowL,n,r,m];exact⟨(i+1,q+100),by simp; omega,by simp; omega,by simp[j]<;>omega⟩
  ·simp[isP,n]at j;simp[d,e,c,b,rowL,n,m];exact⟨(i+1,q+100),by simp; omega,by simp; omega,by simp[j]<;>omega⟩
 ·have w:i=ls.length:=by omega
  subst w;simp[d]
theorem c38(f:Int)(ls:List Lt)(x:Int)(h:ls.length≤1000):PCall Tryz.prog 98 [cV f ls,.int .i64 x] (.int .i64 (Z3 (fun l=>isX l&&l.i == x) ls:Nat)):=by
 refine Zad (by simp[Y7,B9,AVal.closed,Y5]) trivial (B6 hm Tryz.func98 cf38 (Nat.le_of_ble_eq_true rfl) ?_)
 have r:=L0 ls;unfold cV;generalize ls.map rowL=rows at r;have d:=r.len;simp[af38];generalize y:(fun l=>isX l&&l.i == x)=n
 refine Za0 (α:=Nat×Nat) (fun a=>[(6,.int .i64 a.1),(5,.int .i64 (Z3 n (ls.take a.1):Nat)),(2,.ptr 1 0 0),(1,.int .i64 x)]) (fun a=>⟨[(1,.cells 2 [[.int .i64 f,.imm rows]])],a.2+5⟩)
  (fun a=>ls.length - a.1) (fun a=>a.1≤ls.length) (0,0) (by simp[Z3]) (by simp) ?_
 rintro⟨i,q⟩ hi;have u:=Zbn (p:=n) (ls:=ls) i;simp only at hi ⊢;by_cases e:i<ls.length
 ·have c:=r.row i e;obtain⟨w,b⟩:=gS.1 c;have g:=Zai (p:=n) e;have j:IntKind.i64.wrap ((i:Int)+1)=(i:Int)+1:=Z5 (by omega) (by omega)
  have t:IntKind.i64.wrap ((Z3 n (ls.take i):Nat)+1:Int)=(Z3 n (ls.take i):Nat)+1:=Z5 (by omega) (by omega)
  generalize at' ls i=l at c b g;have s:n l=(isX l&&l.i == x):=by rw[← y]
  rw[s]at g;by_cases m:l.k=2
  ·by_cases o:l.i=x
   ·simp[isX,m,o]at g;simp[d,e,c,b,rowL,m,o,j,t];exact⟨(i+1,q+100),by simp; omega,by simp; omega,by simp[g]<;>omega⟩
   ·simp[isX,m,o]at g;simp[d,e,c,b,rowL,m,o,j];exact⟨(i+1,q+100),by simp; omega,by simp; omega,by simp[g]<;>omega⟩
  ·simp[isX,m]at g;simp[d,e,c,b,rowL,m,j];exact⟨(i+1,q+100),by simp; omega,by simp; omega,by simp[g]<;>omega⟩
 ·have v:i=ls.length:=by omega
  subst v;simp[d]
theorem c17(f:Int)(ls:List Lt)(h:ls.length≤1000):PCall Tryz.prog 64 [cV f ls] (.int .i64 (Y9 ls / 2:Nat)):=by
 refine Zad (by simp[Y7,B9]) trivial (B6 hm Tryz.func64 cf17 (Nat.le_of_ble_eq_true rfl) ?_)
 have a:Z3 isX ls≤ls.length:=D2;simp[af17];refine U1 (c13 f ls h) ?_;have b:IntKind.i64.wrap ((Z3 isX ls / 2:Nat):Int)=((Z3 isX ls / 2:Nat):Int):=Z5 (by omega) (by omega)
 simp[Zaf,Y9];exact Z5 (by omega) (by omega)
theorem c67(f:Int)(ls:List Lt)(i:Nat)(fw:Bool)(h:ls.length≤1000)(hi:i<ls.length):PCall Tryz.prog 132 [cV f ls,.int .i64 i,.bool fw] (.int .i64 (Y0 ls.length i fw:Nat)):=by
 refine Zad (by simp[Y7,B9,AVal.closed,Y5]) trivial (B6 hm Tryz.func132 cf67 (Nat.le_of_ble_eq_true rfl) ?_)
 have k:=L0 ls;unfold cV;generalize ls.map rowL=rows at k;have a:=k.len;cases fw with
 | true=>
  have o:IntKind.i64.wrap (2*(i:Int))=2*(i:Int):=Z5 (by omega) (by omega)
  simp[af67,a,o,Y0]
 | false=>
  have m:0<ls.length:=by omega
  have n:¬((ls.length:Int)=0):=by omega
  have b:ls≠[]:=by intro e; subst e; simp at m
  have c:IntKind.i64.wrap ((i:Int)+ls.length)=((i+ls.length:Nat):Int):=by rw[Z5 (by omega) (by omega)]; simp
  have d:IntKind.i64.wrap (((i+ls.length:Nat):Int) - 1)=((i+ls.length - 1:Nat):Int):=by rw[Z5 (by omega) (by omega)]; omega
  have l:=Nat.mod_lt (i+ls.length - 1) m;have g:IntKind.i64.wrap (2*(((i+ls.length - 1) % ls.length:Nat):Int))=((2*((i+ls.length - 1) % ls.length):Nat):Int):=by rw[Z5 (by omega) (by omega)]; simp
  have j:IntKind.i64.wrap (((2*((i+ls.length - 1) % ls.length):Nat):Int)+1)=((2*((i+ls.length - 1) % ls.length)+1:Nat):Int):=by rw[Z5 (by omega) (by omega)]; simp
  simp[-Int.natCast_add,-Int.natCast_mul,af67,a,c,d,Zka,Y0,b];rw[← Int.natCast_emod,g,j]
theorem c66(a b:Lt):PCall Tryz.prog 131 [.agg (rowL a),.agg (rowL b)] (.bool (U7 a b)):=by
 refine Zad rfl trivial (B6 hm Tryz.func131 cf66 (Nat.le_of_ble_eq_true rfl) ?_);by_cases d:a.g<b.g
 ·simp[af66,rowL,d,U7]
 ·by_cases c:a.g=b.g
  ·by_cases e:a.r<b.r
   ·simp[af66,rowL,c,e,U7]
   ·simp[af66,rowL,c,e,U7]
  ·simp[af66,rowL,d,c,U7]
theorem c68(f:Int)(ls:List Lt)(p:Nat)(h:ls.length≤1000)(v:p≤ls.length):PCall Tryz.prog 80 [cV f ls,.int .i64 p] (.bool (down ls p)):=by
 refine Zad (by simp[Y7,B9,AVal.closed,Y5]) trivial (B6 hm Tryz.func80 cf68 (Nat.le_of_ble_eq_true rfl) ?_)
 have n:=L0 ls;unfold cV;generalize ls.map rowL=rows at n;have r:=n.len;simp[af68];refine Za0 (α:=Nat×Nat) (fun a=>[(6,.int .i64 a.1),(5,.int .i64 (Z3 isP (ls.take a.1):Nat)),(2,.ptr 1 0 0),(1,.int .i64 p)]) (fun a=>⟨[(1,.cells 2 [[.int .i64 f,.imm rows]])],a.2+5⟩)
  (fun a=>p - a.1) (fun a=>a.1≤p) (0,0) (by simp[Z3]) (by simp) ?_
 rintro⟨i,q⟩ hi;have s:=Zbn (p:=isP) (ls:=ls) i;simp only at hi ⊢;by_cases g:i<p
 ·have d:i<ls.length:=by omega
  have c:=n.row i d;obtain⟨u,b⟩:=gS.1 c;have e:=Zai (p:=isP) d;have j:IntKind.i64.wrap ((i:Int)+1)=(i:Int)+1:=Z5 (by omega) (by omega)
  have o:IntKind.i64.wrap ((Z3 isP (ls.take i):Nat)+1:Int)=(Z3 isP (ls.take i):Nat)+1:=Z5 (by omega) (by omega)
  generalize at' ls i=l at c b e;by_cases m:l.k=1
  ·simp[isP,m]at e;simp[g,c,b,rowL,m,j,o];exact⟨(i+1,q+100),by simp; omega,by simp; omega,by simp[e]<;>omega⟩
  ·simp[isP,m]at e;simp[g,c,b,rowL,m,j];exact⟨(i+1,q+100),by simp; omega,by simp; omega,by simp[e]<;>omega⟩
 ·have t:i=p:=by omega
  subst t;simp[Zf5,down,Z0];rw[Bool.eq_iff_iff];simp;omega
theorem c69(f:Int)(ls:List Lt)(v:Nat)(h:ls.length≤1000)(u:v<ls.length):PCall Tryz.prog 133 [cV f ls,.int .i64 v] (.int .i64 (X9 ls v ls.length 0:Nat)):=by
 refine Zad (by simp[Y7,B9,AVal.closed,Y5]) trivial (B6 hm Tryz.func133 cf69 (Nat.le_of_ble_eq_true rfl) ?_)
 have s:=L0 ls;unfold cV;generalize ls.map rowL=rows at s;have c:=s.len;simp[af69];refine Za0 (α:=Nat×Nat) (fun a=>[(5,.int .i64 a.1),(2,.ptr 1 0 0),(1,.int .i64 v)]) (fun a=>⟨[(1,.cells 2 [[.int .i64 f,.imm rows]])],a.2+4⟩)
  (fun a=>ls.length - a.1) (fun a=>a.1≤ls.length∧X9 ls v ls.length 0=X9 ls v (ls.length - a.1) a.1) (0,0) (by simp) (by simp) ?_
 rintro⟨i,q⟩ ⟨hi,j⟩;simp only at hi j ⊢;have e:=s.row v u;obtain⟨w,g⟩:=gS.1 e;by_cases l:i<ls.length
 ·have d:=s.row i l;obtain⟨z,b⟩:=gS.1 d;have o:IntKind.i64.wrap ((i:Int)+1)=(i:Int)+1:=Z5 (by omega) (by omega)
  have r:ls.length - i=(ls.length - (i+1))+1:=by omega
  rw[r,X9]at j;by_cases n:i=v
  ·subst n;simp at j;simp[c,l,d,b,rowL,o];exact⟨(i+1,q+100),by simp; omega,by simp; exact⟨by omega,j⟩,by simp<;>omega⟩
  ·have m:¬((i:Int)=v):=by omega
   by_cases p:(at' ls i).k=2
   ·by_cases t:(at' ls i).i=(at' ls v).i
    ·simp[n,isX,p,t]at j;simp[c,l,u,d,b,e,g,rowL,m,p,t,j]
    ·simp[n,isX,p,t]at j;simp[c,l,u,d,b,e,g,rowL,m,p,t,o];exact⟨(i+1,q+100),by simp; omega,by simp; exact⟨by omega,j⟩,by simp<;>omega⟩
   ·simp[n,isX,p]at j;simp[c,l,d,b,rowL,m,p,o];exact⟨(i+1,q+100),by simp; omega,by simp; exact⟨by omega,j⟩,by simp<;>omega⟩
 ·have y:i=ls.length:=by omega
  subst y;simp[X9]at j;simp[c,j]
end Go.Known
