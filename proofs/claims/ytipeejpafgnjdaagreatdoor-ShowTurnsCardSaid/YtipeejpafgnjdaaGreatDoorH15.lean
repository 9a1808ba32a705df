/- Part 15 of the proof: La. -/
import Derived.Test.YtipeejpafgnjdaaGreatDoorH7
import Derived.Test.YtipeejpafgnjdaaGreatDoorH12
import Derived.Test.YtipeejpafgnjdaaGreatDoorH14
set_option linter.all false
namespace Go.Known
open Go Go.AE Go.Proofs
open Go.Plain
attribute [local simp] F5 F3 G5 F4 F9 F8 F1 G9 P1 P3 Q7 P6 Q9 P4 G7 F0 V2 evE Env.get Y4 W9 stepD SMem.at SMem.app SMem.get Z8 AVal.cells AVal.one R4 T6 Q1 U9 V1 X6 V4 unA eqA R5 U8 J0 X9 aundef Zbr Zb6 S3 FT.indep O8 Q8 K1 J2 in1 V9 V8 Y8 SubS SubE SubB
def rowL(l:Lt):List AVal:=[.int .i64 l.k,.int .i64 l.g,.int .i64 l.r,.int .i64 l.i,.int .i64 l.s,.bool l.o]
abbrev cV(f:Int)(ls:List Lt):AVal:=.agg [.int .i64 f,.imm (ls.map rowL)]
theorem Z9:∀ (ls:List Lt),X8 (ls.map rowL)=true
 | []=>rfl
 | l :: r=>by simp only[List.map_cons,X8,Z9 r,Bool.and_true]; rfl
theorem C5(f:Int)(ls:List Lt):(cV f ls).closed=true:=by
 simp only[AVal.closed,Y0,Z9,Bool.and_self]
theorem Z6{x:Int}(h1 : -9223372036854775808≤x)(h2:x<9223372036854775808):IntKind.i64.wrap x=x:=by
 simp only[IntKind.wrap,IntKind.bits,IntKind.signed]
 first|omega|(simp; omega)
structure Rows (ls:List Lt) (rows:List (List AVal)):Prop where
 len:rows.length=ls.length
 row:∀ i,i<ls.length→rows[i]? = some (rowL (at' ls i))
theorem N8(ls:List Lt):Rows ls (ls.map rowL):=⟨by simp,fun i h=>by
 rw[List.getElem?_map,gE h,at',List.getD,gE h];rfl⟩
theorem Zag{p:Lt→Bool}{ls:List Lt}{i:Nat}(h:i<ls.length):Z4 p (ls.take (i+1))=Z4 p (ls.take i)+(if p (at' ls i)then 1 else 0):=by
 rw[List.take_add_one,Zf8,at',List.getD,gE h];simp[Z4,List.filter_cons];split<;>rfl
theorem Zc7{p:Lt→Bool}{ls:List Lt}(i:Nat):Z4 p (ls.take i)≤i:=by
 have h1:Z4 p (ls.take i)≤(ls.take i).length:=E5;rw[List.length_take]at h1;omega
theorem Zfa(a:Nat):Int.tmod (a:Int) 2=((a % 2:Nat):Int):=rfl
theorem Zhv(a b:Nat):Int.tmod (a:Int) (b:Int)=((a % b:Nat):Int):=rfl
theorem A0(a:Nat):Int.tdiv (a:Int) 2=((a / 2:Nat):Int):=rfl
def U3(n i:Nat)(fw:Bool):Nat:=if fw then 2*i else 2*((i+n - 1) % n)+1
def W1(ls:List Lt)(i:Nat):Nat→Nat→Nat
 | 0,_=>i
 | k+1,j=>if j != i&&isX (at' ls j)&&(at' ls j).i == (at' ls i).i then j else W1 ls i k (j+1)
abbrev Z0(l:List Nat):List (List AVal):=l.map fun(i:Nat)=>[AVal.int .i64 (i:Int)]
theorem G0:∀ (l:List Nat),X8 (Z0 l)=true
 | []=>rfl
 | x :: r=>by simp only[Z0,List.map_cons,X8]; exact G0 r
theorem c13(f:Int)(ls:List Lt)(h:ls.length≤1000):PCall Tryz.prog 84 [cV f ls] (.int .i64 (Z4 isX ls:Nat)):=by
 refine Zac (by simp[Y0,C5]) trivial (B0 hm Tryz.func84 cf13 (Nat.le_of_ble_eq_true rfl) ?_)
 have hR:=N8 ls;unfold cV;generalize ls.map rowL=rows at hR;have hlen:=hR.len;simp[af13];refine Zav (α:=Nat×Nat) (fun a=>[(4,.int .i64 a.1),(3,.int .i64 (Z4 isX (ls.take a.1):Nat)),(1,.ptr 1 0 0)]) (fun a=>⟨[(1,.cells 2 [[.int .i64 f,.imm rows]])],a.2+5⟩)
  (fun a=>ls.length - a.1) (fun a=>a.1≤ls.length) (0,0) (by simp[Z4]) (by simp) ?_
 rintro⟨i,q⟩ hi;have hcl:=Zc7 (p:=isX) (ls:=ls) i;simp only at hi ⊢;by_cases hlt:i<ls.length
 ·have hrow:=hR.row i hlt;obtain⟨hil,hrow2⟩:=gS.1 hrow;have hc:=Zag (p:=isX) hlt;have hw1:IntKind.i64.wrap ((i:Int)+1)=(i:Int)+1:=Z6 (by omega) (by omega)
  have hw2:IntKind.i64.wrap ((Z4 isX (ls.take i):Nat)+1:Int)=(Z4 isX (ls.take i):Nat)+1:=Z6 (by omega) (by omega)
  generalize at' ls i=l at hrow hrow2 hc;by_cases hk:l.k=2
  ·simp[isX,hk]at hc;simp[hlen,hlt,hrow,hrow2,rowL,hk,hw1,hw2];exact⟨(i+1,q+18),by simp; omega,by simp; omega,by simp[hc]⟩
  ·simp[isX,hk]at hc;simp[hlen,hlt,hrow,hrow2,rowL,hk,hw1];exact⟨(i+1,q+15),by simp; omega,by simp; omega,by simp[hc]⟩
 ·have he:i=ls.length:=by omega
  subst he;simp[hlen]
theorem c14(f:Int)(ls:List Lt)(h:ls.length≤1000):PCall Tryz.prog 85 [cV f ls] (.int .i64 (Z4 isP ls:Nat)):=by
 refine Zac (by simp[Y0,C5]) trivial (B0 hm Tryz.func85 cf14 (Nat.le_of_ble_eq_true rfl) ?_)
 have hR:=N8 ls;unfold cV;generalize ls.map rowL=rows at hR;have hlen:=hR.len;simp[af14];refine Zav (α:=Nat×Nat) (fun a=>[(4,.int .i64 a.1),(3,.int .i64 (Z4 isP (ls.take a.1):Nat)),(1,.ptr 1 0 0)]) (fun a=>⟨[(1,.cells 2 [[.int .i64 f,.imm rows]])],a.2+5⟩)
  (fun a=>ls.length - a.1) (fun a=>a.1≤ls.length) (0,0) (by simp[Z4]) (by simp) ?_
 rintro⟨i,q⟩ hi;have hcl:=Zc7 (p:=isP) (ls:=ls) i;simp only at hi ⊢;by_cases hlt:i<ls.length
 ·have hrow:=hR.row i hlt;obtain⟨hil,hrow2⟩:=gS.1 hrow;have hc:=Zag (p:=isP) hlt;have hw1:IntKind.i64.wrap ((i:Int)+1)=(i:Int)+1:=Z6 (by omega) (by omega)
  have hw2:IntKind.i64.wrap ((Z4 isP (ls.take i):Nat)+1:Int)=(Z4 isP (ls.take i):Nat)+1:=Z6 (by omega) (by omega)
  generalize at' ls i=l at hrow hrow2 hc;by_cases hk:l.k=1
  ·simp[isP,hk]at hc;simp[hlen,hlt,hrow,hrow2,rowL,hk,hw1,hw2];exact⟨(i+1,q+18),by simp; omega,by simp; omega,by simp[hc]⟩
  ·simp[isP,hk]at hc;simp[hlen,hlt,hrow,hrow2,rowL,hk,hw1];exact⟨(i+1,q+15),by simp; omega,by simp; omega,by simp[hc]⟩
 ·have he:i=ls.length:=by omega
  subst he;simp[hlen]
theorem c103(f:Int)(ls:List Lt)(h:ls.length≤1000):PCall Tryz.prog 118 [cV f ls] (.int .i64 (Z4 isX ls:Nat)):=by
 refine Zac (by simp[Y0,C5]) trivial (B0 hm Tryz.func118 Zsz (Nat.le_of_ble_eq_true rfl) ?_)
 have hR:=N8 ls;unfold cV;generalize ls.map rowL=rows at hR;have hlen:=hR.len;simp[af103];refine Zav (α:=Nat×Nat) (fun a=>[(9,.int .i64 a.1),(8,.int .i64 ls.length),(7,.imm rows),(3,.int .i64 (Z4 isX (ls.take a.1):Nat))]) (fun a=>⟨[],a.2⟩)
  (fun a=>ls.length - a.1) (fun a=>a.1≤ls.length) (0,8) (by simp[Z4,hlen]) (by simp) ?_
 rintro⟨i,q⟩ hi;have hcl:=Zc7 (p:=isX) (ls:=ls) i;simp only at hi ⊢;by_cases hlt:i<ls.length
 ·have hrow:=hR.row i hlt;obtain⟨hil,hrow2⟩:=gS.1 hrow;have hc:=Zag (p:=isX) hlt;have hw1:IntKind.i64.wrap ((i:Int)+1)=(i:Int)+1:=Z6 (by omega) (by omega)
  have hw2:IntKind.i64.wrap ((Z4 isX (ls.take i):Nat)+1:Int)=(Z4 isX (ls.take i):Nat)+1:=Z6 (by omega) (by omega)
  generalize at' ls i=l at hrow hrow2 hc;by_cases hk:l.k=2
  ·simp[isX,hk]at hc;simp[hlen,hlt,hrow,hrow2,rowL,hk,hw1,hw2];exact⟨(i+1,q+100),by simp; omega,by simp; omega,by simp[hc]<;>omega⟩
  ·simp[isX,hk]at hc;simp[hlen,hlt,hrow,hrow2,rowL,hk,hw1];exact⟨(i+1,q+100),by simp; omega,by simp; omega,by simp[hc]<;>omega⟩
 ·have he:i=ls.length:=by omega
  subst he;simp[hlen]
theorem c168(f:Int)(ls:List Lt)(h:ls.length≤1000):PCall Tryz.prog 200 [cV f ls] (.int .i64 (Z4 isP ls:Nat)):=by
 refine Zac (by simp[Y0,C5]) trivial (B0 hm Tryz.func200 Zt8 (Nat.le_of_ble_eq_true rfl) ?_)
 have hR:=N8 ls;unfold cV;generalize ls.map rowL=rows at hR;have hlen:=hR.len;simp[af168];refine Zav (α:=Nat×Nat) (fun a=>[(9,.int .i64 a.1),(8,.int .i64 ls.length),(7,.imm rows),(3,.int .i64 (Z4 isP (ls.take a.1):Nat))]) (fun a=>⟨[],a.2⟩)
  (fun a=>ls.length - a.1) (fun a=>a.1≤ls.length) (0,8) (by simp[Z4,hlen]) (by simp) ?_
 rintro⟨i,q⟩ hi;have hcl:=Zc7 (p:=isP) (ls:=ls) i;simp only at hi ⊢;by_cases hlt:i<ls.length
 ·have hrow:=hR.row i hlt;obtain⟨hil,hrow2⟩:=gS.1 hrow;have hc:=Zag (p:=isP) hlt;have hw1:IntKind.i64.wrap ((i:Int)+1)=(i:Int)+1:=Z6 (by omega) (by omega)
  have hw2:IntKind.i64.wrap ((Z4 isP (ls.take i):Nat)+1:Int)=(Z4 isP (ls.take i):Nat)+1:=Z6 (by omega) (by omega)
  generalize at' ls i=l at hrow hrow2 hc;by_cases hk:l.k=1
  ·simp[isP,hk]at hc;simp[hlen,hlt,hrow,hrow2,rowL,hk,hw1,hw2];exact⟨(i+1,q+100),by simp; omega,by simp; omega,by simp[hc]<;>omega⟩
  ·simp[isP,hk]at hc;simp[hlen,hlt,hrow,hrow2,rowL,hk,hw1];exact⟨(i+1,q+100),by simp; omega,by simp; omega,by simp[hc]<;>omega⟩
 ·have he:i=ls.length:=by omega
  subst he;simp[hlen]
theorem c37(f:Int)(ls:List Lt)(x:Int)(h:ls.length≤1000):PCall Tryz.prog 55 [cV f ls,.int .i64 x] (.int .i64 (Z4 (fun l=>isP l&&l.g == x) ls:Nat)):=by
 refine Zac (by simp[Y0,C5,AVal.closed,Z9]) trivial (B0 hm Tryz.func55 cf37 (Nat.le_of_ble_eq_true rfl) ?_)
 have hR:=N8 ls;unfold cV;generalize ls.map rowL=rows at hR;have hlen:=hR.len;simp[af37];generalize hq:(fun l=>isP l&&l.g == x)=qq
 refine Zav (α:=Nat×Nat) (fun a=>[(6,.int .i64 a.1),(5,.int .i64 (Z4 qq (ls.take a.1):Nat)),(2,.ptr 1 0 0),(1,.int .i64 x)]) (fun a=>⟨[(1,.cells 2 [[.int .i64 f,.imm rows]])],a.2+5⟩)
  (fun a=>ls.length - a.1) (fun a=>a.1≤ls.length) (0,0) (by simp[Z4]) (by simp) ?_
 rintro⟨i,q⟩ hi;have hcl:=Zc7 (p:=qq) (ls:=ls) i;simp only at hi ⊢;by_cases hlt:i<ls.length
 ·have hrow:=hR.row i hlt;obtain⟨hil,hrow2⟩:=gS.1 hrow;have hc:=Zag (p:=qq) hlt;have hw1:IntKind.i64.wrap ((i:Int)+1)=(i:Int)+1:=Z6 (by omega) (by omega)
  have hw2:IntKind.i64.wrap ((Z4 qq (ls.take i):Nat)+1:Int)=(Z4 qq (ls.take i):Nat)+1:=Z6 (by omega) (by omega)
  generalize at' ls i=l at hrow hrow2 hc;have hql:qq l=(isP l&&l.g == x):=by rw[← hq]
  rw[hql]at hc;by_cases hk:l.k=1
  ·by_cases hg:l.g=x
   ·simp[isP,hk,hg]at hc;simp[hlen,hlt,hrow,hrow2,rowL,hk,hg,hw1,hw2];exact⟨(i+1,q+100),by simp; omega,by simp; omega,by simp[hc]<;>omega⟩
   ·simp[isP,hk,hg]at hc;simp[hlen,hlt,hrow,hrow2,rowL,hk,hg,hw1];exact⟨(i+1,q+100),by simp; omega,by simp; omega,by simp[hc]<;>omega⟩
  ·simp[isP,hk]at hc;simp[hlen,hlt,hrow,hrow2,rowL,hk,hw1];exact⟨(i+1,q+100),by simp; omega,by simp; omega,by simp[hc]<;>omega⟩
 ·have he:i=ls.length:=by omega
  subst he;simp[hlen]
theorem c38(f:Int)(ls:List Lt)(x:Int)(h:ls.length≤1000):PCall Tryz.prog 135 [cV f ls,.int .i64 x] (.int .i64 (Z4 (fun l=>isX l&&l.i == x) ls:Nat)):=by
 refine Zac (by simp[Y0,C5,AVal.closed,Z9]) trivial (B0 hm Tryz.func135 cf38 (Nat.le_of_ble_eq_true rfl) ?_)
 have hR:=N8 ls;unfold cV;generalize ls.map rowL=rows at hR;have hlen:=hR.len;simp[af38];generalize hq:(fun l=>isX l&&l.i == x)=qq
 refine Zav (α:=Nat×Nat) (fun a=>[(6,.int .i64 a.1),(5,.int .i64 (Z4 qq (ls.take a.1):Nat)),(2,.ptr 1 0 0),(1,.int .i64 x)]) (fun a=>⟨[(1,.cells 2 [[.int .i64 f,.imm rows]])],a.2+5⟩)
  (fun a=>ls.length - a.1) (fun a=>a.1≤ls.length) (0,0) (by simp[Z4]) (by simp) ?_
 rintro⟨i,q⟩ hi;have hcl:=Zc7 (p:=qq) (ls:=ls) i;simp only at hi ⊢;by_cases hlt:i<ls.length
 ·have hrow:=hR.row i hlt;obtain⟨hil,hrow2⟩:=gS.1 hrow;have hc:=Zag (p:=qq) hlt;have hw1:IntKind.i64.wrap ((i:Int)+1)=(i:Int)+1:=Z6 (by omega) (by omega)
  have hw2:IntKind.i64.wrap ((Z4 qq (ls.take i):Nat)+1:Int)=(Z4 qq (ls.take i):Nat)+1:=Z6 (by omega) (by omega)
  generalize at' ls i=l at hrow hrow2 hc;have hql:qq l=(isX l&&l.i == x):=by rw[← hq]
  rw[hql]at hc;by_cases hk:l.k=2
  ·by_cases hg:l.i=x
   ·simp[isX,hk,hg]at hc;simp[hlen,hlt,hrow,hrow2,rowL,hk,hg,hw1,hw2];exact⟨(i+1,q+100),by simp; omega,by simp; omega,by simp[hc]<;>omega⟩
   ·simp[isX,hk,hg]at hc;simp[hlen,hlt,hrow,hrow2,rowL,hk,hg,hw1];exact⟨(i+1,q+100),by simp; omega,by simp; omega,by simp[hc]<;>omega⟩
  ·simp[isX,hk]at hc;simp[hlen,hlt,hrow,hrow2,rowL,hk,hw1];exact⟨(i+1,q+100),by simp; omega,by simp; omega,by simp[hc]<;>omega⟩
 ·have he:i=ls.length:=by omega
  subst he;simp[hlen]
theorem c17(f:Int)(ls:List Lt)(h:ls.length≤1000):PCall Tryz.prog 42 [cV f ls] (.int .i64 (Y7 ls / 2:Nat)):=by
 refine Zac (by simp[Y0,C5]) trivial (B0 hm Tryz.func42 cf17 (Nat.le_of_ble_eq_true rfl) ?_)
 have hc:Z4 isX ls≤ls.length:=E5;simp[af17];refine W3 (c13 f ls h) ?_;have hw:IntKind.i64.wrap ((Z4 isX ls / 2:Nat):Int)=((Z4 isX ls / 2:Nat):Int):=Z6 (by omega) (by omega)
 simp[A0,Y7];exact Z6 (by omega) (by omega)
theorem c67(f:Int)(ls:List Lt)(i:Nat)(fw:Bool)(h:ls.length≤1000)(hi:i<ls.length):PCall Tryz.prog 159 [cV f ls,.int .i64 i,.bool fw] (.int .i64 (U3 ls.length i fw:Nat)):=by
 refine Zac (by simp[Y0,C5,AVal.closed,Z9]) trivial (B0 hm Tryz.func159 cf67 (Nat.le_of_ble_eq_true rfl) ?_)
 have hR:=N8 ls;unfold cV;generalize ls.map rowL=rows at hR;have hlen:=hR.len;cases fw with
 | true=>
  have hw:IntKind.i64.wrap (2*(i:Int))=2*(i:Int):=Z6 (by omega) (by omega)
  simp[af67,hlen,hw,U3]
 | false=>
  have hn:0<ls.length:=by omega
  have hn0:¬((ls.length:Int)=0):=by omega
  have hn1:ls≠[]:=by intro e; subst e; simp at hn
  have hw1:IntKind.i64.wrap ((i:Int)+ls.length)=((i+ls.length:Nat):Int):=by rw[Z6 (by omega) (by omega)]; simp
  have hw2:IntKind.i64.wrap (((i+ls.length:Nat):Int) - 1)=((i+ls.length - 1:Nat):Int):=by rw[Z6 (by omega) (by omega)]; omega
  have hmod:=Nat.mod_lt (i+ls.length - 1) hn;have hw3:IntKind.i64.wrap (2*(((i+ls.length - 1) % ls.length:Nat):Int))=((2*((i+ls.length - 1) % ls.length):Nat):Int):=by rw[Z6 (by omega) (by omega)]; simp
  have hw4:IntKind.i64.wrap (((2*((i+ls.length - 1) % ls.length):Nat):Int)+1)=((2*((i+ls.length - 1) % ls.length)+1:Nat):Int):=by rw[Z6 (by omega) (by omega)]; simp
  simp[-Int.natCast_add,-Int.natCast_mul,af67,hlen,hw1,hw2,Zhv,U3,hn1];rw[← Int.natCast_emod,hw3,hw4]
theorem c66(a b:Lt):PCall Tryz.prog 157 [.agg (rowL a),.agg (rowL b)] (.bool (U0 a b)):=by
 refine Zac rfl trivial (B0 hm Tryz.func157 cf66 (Nat.le_of_ble_eq_true rfl) ?_);by_cases h1:a.g<b.g
 ·simp[af66,rowL,h1,U0]
 ·by_cases h2:a.g=b.g
  ·by_cases h3:a.r<b.r
   ·simp[af66,rowL,h2,h3,U0]
   ·simp[af66,rowL,h2,h3,U0]
  ·simp[af66,rowL,h1,h2,U0]
theorem c68(f:Int)(ls:List Lt)(p:Nat)(h:ls.length≤1000)(hp:p≤ls.length):PCall Tryz.prog 105 [cV f ls,.int .i64 p] (.bool (down ls p)):=by
 refine Zac (by simp[Y0,C5,AVal.closed,Z9]) trivial (B0 hm Tryz.func105 cf68 (Nat.le_of_ble_eq_true rfl) ?_)
 have hR:=N8 ls;unfold cV;generalize ls.map rowL=rows at hR;have hlen:=hR.len;simp[af68];refine Zav (α:=Nat×Nat) (fun a=>[(6,.int .i64 a.1),(5,.int .i64 (Z4 isP (ls.take a.1):Nat)),(2,.ptr 1 0 0),(1,.int .i64 p)]) (fun a=>⟨[(1,.cells 2 [[.int .i64 f,.imm rows]])],a.2+5⟩)
  (fun a=>p - a.1) (fun a=>a.1≤p) (0,0) (by simp[Z4]) (by simp) ?_
 rintro⟨i,q⟩ hi;have hcl:=Zc7 (p:=isP) (ls:=ls) i;simp only at hi ⊢;by_cases hlt:i<p
 ·have hlt2:i<ls.length:=by omega
  have hrow:=hR.row i hlt2;obtain⟨hil,hrow2⟩:=gS.1 hrow;have hc:=Zag (p:=isP) hlt2;have hw1:IntKind.i64.wrap ((i:Int)+1)=(i:Int)+1:=Z6 (by omega) (by omega)
  have hw2:IntKind.i64.wrap ((Z4 isP (ls.take i):Nat)+1:Int)=(Z4 isP (ls.take i):Nat)+1:=Z6 (by omega) (by omega)
  generalize at' ls i=l at hrow hrow2 hc;by_cases hk:l.k=1
  ·simp[isP,hk]at hc;simp[hlt,hrow,hrow2,rowL,hk,hw1,hw2];exact⟨(i+1,q+100),by simp; omega,by simp; omega,by simp[hc]<;>omega⟩
  ·simp[isP,hk]at hc;simp[hlt,hrow,hrow2,rowL,hk,hw1];exact⟨(i+1,q+100),by simp; omega,by simp; omega,by simp[hc]<;>omega⟩
 ·have he:i=p:=by omega
  subst he;simp[Zfa,down,Z1];rw[Bool.eq_iff_iff];simp;omega
theorem c69(f:Int)(ls:List Lt)(v:Nat)(h:ls.length≤1000)(hv:v<ls.length):PCall Tryz.prog 160 [cV f ls,.int .i64 v] (.int .i64 (W1 ls v ls.length 0:Nat)):=by
 refine Zac (by simp[Y0,C5,AVal.closed,Z9]) trivial (B0 hm Tryz.func160 cf69 (Nat.le_of_ble_eq_true rfl) ?_)
 have hR:=N8 ls;unfold cV;generalize ls.map rowL=rows at hR;have hlen:=hR.len;simp[af69];refine Zav (α:=Nat×Nat) (fun a=>[(5,.int .i64 a.1),(2,.ptr 1 0 0),(1,.int .i64 v)]) (fun a=>⟨[(1,.cells 2 [[.int .i64 f,.imm rows]])],a.2+4⟩)
  (fun a=>ls.length - a.1) (fun a=>a.1≤ls.length∧W1 ls v ls.length 0=W1 ls v (ls.length - a.1) a.1) (0,0) (by simp) (by simp) ?_
 rintro⟨i,q⟩ ⟨hi,hI⟩;simp only at hi hI ⊢;have hrowv:=hR.row v hv;obtain⟨hilv,hrowv2⟩:=gS.1 hrowv;by_cases hlt:i<ls.length
 ·have hrow:=hR.row i hlt;obtain⟨hil,hrow2⟩:=gS.1 hrow;have hw1:IntKind.i64.wrap ((i:Int)+1)=(i:Int)+1:=Z6 (by omega) (by omega)
  have hsub:ls.length - i=(ls.length - (i+1))+1:=by omega
  rw[hsub,W1]at hI;by_cases hvi:i=v
  ·subst hvi;simp at hI;simp[hlen,hlt,hrow,hrow2,rowL,hw1];exact⟨(i+1,q+100),by simp; omega,by simp; exact⟨by omega,hI⟩,by simp<;>omega⟩
  ·have hvi':¬((i:Int)=v):=by omega
   by_cases hk:(at' ls i).k=2
   ·by_cases hg:(at' ls i).i=(at' ls v).i
    ·simp[hvi,isX,hk,hg]at hI;simp[hlen,hlt,hv,hrow,hrow2,hrowv,hrowv2,rowL,hvi',hk,hg,hI]
    ·simp[hvi,isX,hk,hg]at hI;simp[hlen,hlt,hv,hrow,hrow2,hrowv,hrowv2,rowL,hvi',hk,hg,hw1];exact⟨(i+1,q+100),by simp; omega,by simp; exact⟨by omega,hI⟩,by simp<;>omega⟩
   ·simp[hvi,isX,hk]at hI;simp[hlen,hlt,hrow,hrow2,rowL,hvi',hk,hw1];exact⟨(i+1,q+100),by simp; omega,by simp; exact⟨by omega,hI⟩,by simp<;>omega⟩
 ·have he:i=ls.length:=by omega
  subst he;simp[W1]at hI;simp[hlen,hI]
end Go.Known
