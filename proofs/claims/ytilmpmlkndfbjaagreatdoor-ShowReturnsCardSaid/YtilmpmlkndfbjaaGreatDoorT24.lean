/- Part 24 -/
import Derived.Test.YtilmpmlkndfbjaaGreatDoorT22
import Derived.Test.YtilmpmlkndfbjaaGreatDoorT23
import Derived.ProofKit
import Derived.Carry
import Derived.Deep.Slices
set_option linter.all false
set_option maxRecDepth 100000
set_option maxHeartbeats 16000000
open List (range map_take replicate)
open Go.Proofs.Tryz (prog)
namespace Go.Ad
open Go Go.AE Go.Proofs Go.Plain Go.ChangeShapes Go.WideShapes Go.RowKit Go.Deep
section
variable {H:Type} {enc:TypeId×Value→H} {w:World} {base:Nat} {spare:Nat→Bool} {held:Bool}
theorem Zz8{n:Nat}{cs:List Value}{x:DataW H×List MemPlace}(h:DataW.trod enc prog w base spare held n 54 cs=some x) :
 ∃l:Lt,cs=[.int .i64 l.k,.int .i64 l.g,.int .i64 l.r,.int .i64 l.i,.int .i64 l.s,.bool l.o]:=by
 obtain⟨xs,m,_,_,D,p,j⟩:=DataW.trod_struct Tryz.underlying54 h;have I:Tryz.prog.cellsOf 54=6:=by kernel_rfl
 have q:Tryz.prog.cellsOf 3=1:=by kernel_rfl
 have G:Tryz.prog.cellsOf 4=1:=by kernel_rfl
 have J:Tryz.prog.cellsOf 52=1:=by kernel_rfl
 rw[I]at D
 match cs,D with
 |[a,b,c,d,e,f],_=>
  match xs,p with
  |[x0,x1,x2,x3,Y,Z],_=>
   have v:DataW.trod enc prog w base spare held m 52 (([a,b,c,d,e,f].drop 0).take (Tryz.prog.cellsOf 52))=some x0:=j 0 _ rfl;rw[J]at v;have y:DataW.trod enc prog w base spare held m 3 (([a,b,c,d,e,f].drop 1).take (Tryz.prog.cellsOf 3))=some x1:=j 1 _ rfl;rw[q]at y;have z:DataW.trod enc prog w base spare held m 3 (([a,b,c,d,e,f].drop 2).take (Tryz.prog.cellsOf 3))=some x2:=j 2 _ rfl;rw[q]at z;have A:DataW.trod enc prog w base spare held m 3 (([a,b,c,d,e,f].drop 3).take (Tryz.prog.cellsOf 3))=some x3:=j 3 _ rfl;rw[q]at A;have B:DataW.trod enc prog w base spare held m 3 (([a,b,c,d,e,f].drop 4).take (Tryz.prog.cellsOf 3))=some Y:=j 4 _ rfl;rw[q]at B;have C:DataW.trod enc prog w base spare held m 4 (([a,b,c,d,e,f].drop 5).take (Tryz.prog.cellsOf 4))=some Z:=j 5 _ rfl;rw[G]at C
   obtain⟨n0,K,_,_⟩:=DataW.trod_int (t:=52) (k:=.i64) Tryz.underlying52 v;obtain⟨n1,L,_,_⟩:=DataW.trod_int (t:=3) (k:=.i64) Tryz.underlying3 y;obtain⟨n2,M,_,_⟩:=DataW.trod_int (t:=3) (k:=.i64) Tryz.underlying3 z;obtain⟨E,N,_,_⟩:=DataW.trod_int (t:=3) (k:=.i64) Tryz.underlying3 A;obtain⟨F,O,_,_⟩:=DataW.trod_int (t:=3) (k:=.i64) Tryz.underlying3 B;obtain⟨u,P,_⟩:=DataW.trod_bool (t:=4) Tryz.underlying4 C;have Q:a=.int .i64 n0:=by simpa using K
   have S:b=.int .i64 n1:=by simpa using L
   have T:c=.int .i64 n2:=by simpa using M
   have U:d=.int .i64 E:=by simpa using N
   have V:e=.int .i64 F:=by simpa using O
   have X:f=.bool u:=by simpa using P
   subst Q S T U V X;exact⟨⟨n0,n1,n2,E,F,u⟩,rfl⟩
def Mh(l:Lt):List Value:=[.int .i64 l.k,.int .i64 l.g,.int .i64 l.r,.int .i64 l.i,.int .i64 l.s,.bool l.o]
def FK(w:World):Ap:=fun B=>match w.heap[B]? with
 | some (.cells c _ _)=>some c
 | _=>none
theorem Yhe{w:World}{B:Nat}{c:Array Value}(h:FK w B=some c):∃e fz,w.heap[B]?=some (.cells c e fz):=by
 unfold FK at h;grind
theorem yX(Φ:Ap)(ρ:AI)(l:Lt)(j:Nat)(x:Aa)(h:(Ab l)[j]?=some x):∃v,(Mh l)[j]?=some v/\v.oneCell'=true/\R Φ ρ x v:=by
 match j,h with
 |0,h=>cases h;exact⟨_,rfl,rfl,.int _ _⟩
 |1,h=>cases h;exact⟨_,rfl,rfl,.int _ _⟩
 |2,h=>cases h;exact⟨_,rfl,rfl,.int _ _⟩
 |3,h=>cases h;exact⟨_,rfl,rfl,.int _ _⟩
 |4,h=>cases h;exact⟨_,rfl,rfl,.int _ _⟩
 |5,h=>cases h;exact⟨_,rfl,rfl,.bool _⟩
 |j+6,h=>cases h
theorem dY(a:Addr)(n:Nat):(a.add n).block=a.block:=by unfold Addr.add;split<;>rfl
theorem u9(a:Addr)(n:Nat):(a.add n).off=a.off+n:=by
 unfold Addr.add;grind
theorem Zwo{w:World}{base:Nat}{a:Addr}{n:Nat}{cs:List Value}(h:w.cells? base a n=some cs):∀j,j<n->w.cell? (a.add j)=cs[j]? /\ cs.length=n:=by
 unfold World.cells? at h;split at h
 ·intro j b;exact⟨mapM_some_get h j j (by simp[b]),by simpa using mapM_some_length h⟩
 cases h
theorem ud{w:World}{a:Addr}{v:Value}(h:w.cell? a=some v):∃c e fz,w.heap[a.block]?=some (.cells c e fz)/\c[a.off]?=some v:=by
 unfold World.cell? at h;grind
theorem Zwt{w:World}{a:Addr}{v:Value}(h:w.cell? a=some v):a.spot=none:=by
 unfold World.cell? at h;split at h
 ·simp_all
 cases h
theorem Ygc{n:Nat}{v:Value}{x:DataW H×List MemPlace}(h:DataW.trod enc prog w 0 (λ_=>true) held n 28 [v]=some x):∃ls:List Lt,∀ρ,R (FK w) ρ (.Al (ls.map Ab)) v:=by
 have I:Tryz.prog.cellsOf 54=6:=by kernel_rfl
 rcases open_slice Tryz.underlying28 h with⟨F,_⟩|⟨a,len,cap,m,Y,D,X,F,_,K,_,hm,_,s⟩
 ·cases F;exact⟨[],λρ=>.CA _ _ λQ=>absurd Q (by omega)⟩
 cases F;simp only[if_true]at hm;subst hm;rw[I]at s;have G:∀i,∃l:Lt,i<len->w.cells? 0 (a.add (i*6)) 6=some (Mh l):=λi=>by
  by_cases hi:i<len
  ·obtain⟨C,d,q⟩:=s i (by omega);obtain⟨l,rfl⟩:=Zz8 q;exact⟨l,λ_=>d⟩
  exact⟨default,λh=>absurd h hi⟩
 obtain⟨L,G⟩:=Classical.axiomOfChoice G;rcases Nat.eq_zero_or_pos len with z|z
 ·subst z;refine⟨[],λρ=>.CA _ _ λQ=>?_⟩;obtain⟨C,d,q⟩:=s 0 (by omega);obtain⟨l,rfl⟩:=Zz8 q;have P:=(Zwo d 0 (by omega)).1;have E:(a.add (0*6)).add 0=a:=by simp[Addr.add]
  rw[E]at P;have p:=Zwt (v:=.int .i64 l.k) P;obtain⟨M,N,B⟩:=a;simp only at p;subst p;exact⟨_,_,rfl⟩
 have b:∀i j,i<len->j<6->w.cell? ((a.add (i*6)).add j)=(Mh (L i))[j]?:=λi j hi r=>(Zwo (G i hi) j r).1;have p:a.spot=none:=by
  have:=b 0 0 z (by omega);have E:(a.add (0*6)).add 0=a:=by simp[Addr.add]
  rw[E]at this;exact Zwt this
 have y:∃c e fz,w.heap[a.block]?=some (.cells c e fz):=by
  have:=b 0 0 z (by omega);obtain⟨c,e,fz,d,_⟩:=ud (v:=.int .i64 (L 0).k) this;rw[dY,dY]at d;exact⟨c,e,fz,d⟩
 obtain⟨c,e,fz,A⟩:=y;have u:∀i j v,i<len->j<6->(Mh (L i))[j]?=some v->c[a.off+i*6+j]?=some v:=λi j v hi r U=>by
  have O:=b i j hi r;rw[U]at O;obtain⟨c',e',S,d,q⟩:=ud O;rw[dY,dY,A]at d;cases d;rw[u9,u9]at q;exact q
 have g:∀(i:Nat) (row:List Aa),(((range len).map L).map Ab)[i]?=some row->i<len/\row=Ab (L i):=λi row hi=>by
  rw[List.map_map,gM]at hi;by_cases f:i<len
  ·rw[List.getElem?_range f]at hi;cases hi;exact⟨f,rfl⟩
  rw[List.getElem?_eq_none (by simpa using f)]at hi;cases hi
 have J:∀(l:Lt) (j:Nat) (x:Aa),(Ab l)[j]?=some x->j<6:=λl j x V=>(gS.1 V).1;refine⟨(range len).map L,λρ=>?_⟩;obtain⟨M,N,B⟩:=a;simp only at p A u;subst p;have o:(((range len).map L).map Ab).length=len:=by simp
 have:=R.Al (Φ:=FK w) (ρ:=ρ) (((range len).map L).map Ab) M N 6 _ c (λi j=>((Mh (L i))[j]?).getD (.bool false)) (λe=>by rw[e]at o;simp at o;omega) (by rw[o];exact K)
  (by unfold FK;rw[A]) (λi row hi=>by obtain⟨_,rfl⟩:=g i row hi;rfl)
  (λi row j x hi r=>by
    obtain⟨f,rfl⟩:=g i row hi;obtain⟨v,d,q,_⟩:=yX (FK w) ρ (L i) j x r;rw[d];exact⟨u i j v f (J _ j x r) d,q⟩)
  (λi row j x hi r=>by
    obtain⟨f,rfl⟩:=g i row hi;obtain⟨v,d,_,T⟩:=yX (FK w) ρ (L i) j x r;rw[d];exact T)
 grind
theorem Ycp{v:Value}{d:DataW H}{p:List MemPlace}{b:Nat}(a:Value.okWide prog w .any b 30 v)(h:DataW.Trod enc prog w 0 (λ_=>true) held 30 v d p):∃(f:Int) (ls:List Lt),∀ρ,R (FK w) ρ (cV f ls) v:=by
 unfold Value.okWide at a;rw[Tryz.underlying30]at a;obtain⟨cs,rfl,e,_⟩:=a;obtain⟨fuel,h⟩:=h;have y:Tryz.prog.cellsOf 30=2:=by kernel_rfl
 have u:Tryz.prog.cellsOf 3=1:=by kernel_rfl
 have j:Tryz.prog.cellsOf 28=1:=by kernel_rfl
 rw[y]at e;obtain⟨C,D,n,_,B,m,o⟩:=trod_struct2 Tryz.underlying30 h;obtain⟨s⟩:=cs
 match s,e with
 |[q,r],_=>
  simp only[u,j,Value.cells]at m o;obtain⟨k,A,_,_⟩:=DataW.trod_int (t:=3) (k:=.i64) Tryz.underlying3 m;have l:q=.int .i64 k:=by simpa using A
  subst l;obtain⟨ls,z⟩:=Ygc (v:=r) o;refine⟨k,ls,λρ=>.agg _ _ rfl λi x v c g=>?_⟩
  match i,c,g with
  |0,c,g=>cases c;cases g;exact .int _ _
  |1,c,g=>grind
  |i+2,c,g=>simp at c
end
theorem qo(l:List Int)(i:Nat)(a:Int):(Y9 l).set i [.int .i64 a]=Y9 (l.set i a):=by rw[Y9,Y9,List.map_set]
theorem Ybq{f:Int}{ls:List Lt}(a:V3 f ls=0)(b:ls≠[]):0<=f/\f<=40/\QC f.toNat ls:=by
 unfold V3 at a;split at a
 ·cases a
 split at a
 ·cases a
 rename_i d e;split at a
 ·rename_i c;exact⟨by omega,by omega,c.resolve_left b⟩
 cases a
structure gW (f:Int) (ls:List Lt):Prop where
 fill:GA ls (Bf ls ls.length)
 Eo:0<Z0 ls
 Cs:∀ v,v<ls.length→(at' ls v).k≠2→(at' ls v).k=1
 axi:∀ v,v∈Z2 ls→v<ls.length∧0≤(at' ls v).g∧(at' ls v).g≤40
section
variable {f:Int} {ls:List Lt}
abbrev wksC(ls:List Lt):List (List Nat):=Q8 (X4 ls (Z2 ls)) (2*ls.length+2*Z0 ls)
end
theorem c18(f:Int)(ls:List Lt):Au prog 12 [cV f ls,.int .i64 40] (.bool (decide (ls.length<=40)&&decide (V3 f ls=0))):=by
 refine JH hm Tryz.func12 tF rfl rfl (by simp[Y7,Aa.closed,Y6]) trivial λK c=>?_;have a:(ls.map Ab).length=ls.length:=lM ..;have i:∀q,Z3 q (ls.map Ab)=ls.map Ab:=λq=>Y2 q _ (Y6 ls);have g:=λh=>c4 f ls h;unfold cV at *;generalize ls.map Ab=rows at *;generalize V3 f ls=e at *;by_cases d:ls.length<=40
 ·have b:(ls.length:Int)<=40:=by omega
  simp[a,b];refine T0 (g (by omega)) ?_;simp[d]at c ⊢;exact Z6 c [] (by simp[])
 have b:¬(ls.length:Int)<=40:=by omega
 simp[a,b];simp[d]at c ⊢;exact Z6 c [] (by simp)
theorem UK(p:Lt->Bool)(f:Lt->Lt)(ls:List Lt):Z4 p (ls.map f)=Z4 (λl=>p (f l)) ls:=by
 unfold Z4;rw[List.filter_map,lM];rfl
theorem Z8e(f:Lt->Lt){ls:List Lt}{v:Nat}(a:v<ls.length):at' (ls.map f) v=f (at' ls v):=by
 unfold at';grind
theorem JY{f:Int}{ls:List Lt}{l:Lt}(a:l.k=1):BQ f ls l=true↔l.i=0/\l.s=0/\l.o=false/\0<=l.g/\l.g<=f/\1<=l.r/\l.r<=Bl l.g ls/\same l ls=1:=by
 unfold BQ;grind
theorem Ik{f:Int}{ls:List Lt}{l:Lt}(a:l.k=2):BQ f ls l=true↔l.g=0/\l.r=0/\(l.s=1\/l.s = -1)/\1<=l.i/\l.i<=(X6 ls / 2:Nat)/\JV l ls=1/\J8 l.i ls=2:=by
 unfold BQ;grind
theorem WH{f:Int}{ls:List Lt}{l:Lt}(h:BQ f ls l=true):l.k=1\/l.k=2:=by
 unfold BQ at h;grind
structure AH (f:Int) (ls:List Lt):Prop where
 len:ls.length≤400
 vis:X6 ls≤200
 lo:0≤f
 hi:f≤40
 fst:(at' ls 0).k=1
 Jk:Z0 ls % 2=0
 Ea:∀ l,l∈ls→BQ f ls l=true
 Gu:H0 (X4 ls (Z2 ls)) (2*ls.length+2*Z0 ls)=Z0 ls+X6 ls / 2+2
theorem Ll{f:Int}{ls:List Lt}(d:V3 f ls=0)(i:ls≠[]):AH f ls:=by
 obtain⟨g,e,j,k,l,m,a,b⟩:=Ybq d i;have n:((f.toNat:Nat):Int)=f:=by omega
 have o:¬(400<ls.length\/200<X6 ls):=λh=>by
  unfold V3 at d;omega
 have c:=wm j m a;rw[n]at c;refine⟨by omega,by omega,g,e,k,l,List.all_eq_true.1 c,?_⟩;rw[Q7]at b;rw[b,a.2.2]
theorem AH.to{f:Int}{ls:List Lt}(h:AH f ls):V3 f ls=0:=by
 have g:((f.toNat:Nat):Int)=f:=by have:=h.lo;omega
 obtain⟨i,j,e⟩:=lJ (F:=f.toNat) (ls:=ls) (by rw[g];exact List.all_eq_true.2 h.Ea);have a:=h.len;have b:=h.vis;have c:=h.lo;have d:=h.hi;unfold V3;rw[iN (by omega),iN (by omega),iP];refine .inr ⟨i,h.fst,h.Jk,j,e,?_⟩;rw[Q7,e.2.2];exact h.Gu
theorem AH.Cq{f:Int}{ls:List Lt}(a:0<=f)(h:∀l,l∈ls->BQ f ls l=true):VM ls/\Qs ls/\HY ls:=by
 have i:((f.toNat:Nat):Int)=f:=by omega
 obtain⟨b,c,d⟩:=lJ (F:=f.toNat) (ls:=ls) (by grind);obtain⟨e,g⟩:=cK (UD b) c;exact⟨e,g,d⟩
theorem Lp{ls:List Lt}(c:Qs ls)(e:VM ls){v:Nat}(b:v<ls.length)(d:(at' ls v).k=1):V9 v (Z2 ls)=pos ls (at' ls v):=by
 have a:As (at' ls v)=true:=by simp[As,d]
 exact Xv (Qx ls) (Li (AA.2 ⟨b,a⟩)).1 (lZ c e b a)
theorem AH.wv{f:Int}{ls:List Lt}(h:AH f ls)(p:ls≠[]):Wv ls:=by
 obtain⟨_,_,d⟩:=AH.Cq h.lo h.Ea;have a:0<ls.length:=List.length_pos_iff.2 p;refine⟨?_,λv c b=>(WH (h.Ea _ (P4 c))).resolve_right b,λv c b=>?_⟩
 ·rw[<-Q7];exact List.length_pos_of_mem (AA.2 ⟨a,by simp[As,h.fst]⟩)
 obtain⟨_,_,j,_,_,_,g,A,i,r,s,t,u,w⟩:=Pv d c (by simp[AO,b]);obtain⟨_,_,e,_,_,_,k,l,m,n,y,z,_,o⟩:=Pv d g i;rw[w];have q:e=v:=(u e k m (by rw[n,r])).resolve_right l;exact⟨g,by simpa[AO]using i,by rw[o,q],s,t⟩
theorem AH.uniq{f:Int}{ls:List Lt}(h:AH f ls){v x:Nat}(c:v<ls.length)(b:(at' ls v).k=2)(d:x<ls.length)(l:(at' ls x).k=2)(hi:(at' ls x).i=(at' ls v).i):x=v\/x=V4 ls v ls.length 0:=by
 obtain⟨_,_,a⟩:=AH.Cq h.lo h.Ea;obtain⟨_,_,j,_,_,_,m,n,o,p,q,r,e,g⟩:=Pv a c (by simp[AO,b]);rw[g];exact e x d (by simp[AO,l]) hi
theorem AH.CK{f:Int}{ls:List Lt}(h:AH f ls){v:Nat}(c:v<ls.length)(b:(at' ls v).k=2):V4 ls v ls.length 0≠v/\(at' ls (V4 ls v ls.length 0)).i=(at' ls v).i:=by
 obtain⟨_,_,a⟩:=AH.Cq h.lo h.Ea;obtain⟨_,_,j,_,_,_,d,e,g,l,m,n,o,p⟩:=Pv a c (by simp[AO,b]);grind
@[simp] theorem Yml(id:Nat)(f:Ah -> Aa)(get:Nat -> Option Af)(k:Nat)(x:Ah)(lo hi:Option Ah):Ak id f get (.Er k x lo hi none)=match f x with
 |.Aj=>match F8 f 0 0 lo hi with
  |some _=>some (.Aj,[])
  |none=>none
 |.emp=>match F8 f 0 0 lo hi with
  |some _=>some (.emp,[])
  |none=>none
 |.Al els=>if els.all (·.length == k)then match F8 f els.length els.length lo hi with
  |some (l,h)=>some (.Al ((els.take h).drop l),[])
  |none=>none
  else none
 |.sl b off len=>match get b with
  |some (.cells a els)=>if a=k/\off+len<=els.length then match F8 f len (els.length-off) lo hi with
   |some (l,h)=>some (.sl b (off+l) (h-l),[])
   |none=>none
   else none
  |_=>none
 |_=>none:=rfl
theorem Tb(rows:List (List Aa))(c:rows≠[])(j:rows.length<=1000)(d:(rows.all λx=>x.length == 6)=true)(g:W3 rows=true) :
 Bo prog 67 [.Al rows] ⟨[],1⟩ λv m=>v=.sl 1 0 rows.length/\m=⟨[(1,.cells 6 rows)],2⟩:=by
 refine D2 hm Tryz.func67 PB rfl rfl λK b=>?_;have i:∀q,Z3 q rows=rows:=λq=>Y2 q _ g;have a:=b _ _ ⟨rfl,rfl⟩;clear b;have e:rows.length<=1048576:=by omega
 have h:W5 .eql .slice (.Al rows) .Aj=some (.bool false):=by
  have:rows.isEmpty=false:=by cases rows with
   |nil=>exact absurd rfl c
   |cons=>rfl
  simp[W5,Ez,JG,G0,this]
 simp[h,Ul,d,c,e,W4];exact Z6 a [(1,6)] (by simp[i])
theorem L5(get:Nat->Option Af)(k b off len:Nat):I1 get k (.sl b off len)=match get b with
 |some (.cells a els)=>if a=k/\off+len<=els.length then some ((els.drop off).take len)else none
 |_=>if len=0 then some []else none:=by
 simp only[I1,N7];rfl
theorem YP(R:List (List Aa))(a:Nat)(z:0<a)(A:a<R.length)(B:R.length<=1000)(w:W3 R=true) :
 Bo prog 68 [.sl 1 0 R.length,.int .i64 a] ⟨[(1,.cells 6 R)],2⟩ λv m=>v=.sl 2 0 R.length/\m=⟨[(1,.cells 6 R),(2,.cells 6 (R.drop a++R.take a))],3⟩:=by
 refine D2 hm Tryz.func68 LW rfl rfl λK g=>?_;have c:∀q,Z3 q R=R:=λq=>Y2 q _ w;have b:=g _ _ ⟨rfl,rfl⟩;clear g;have r:a<=R.length:=by omega
 have s:(R.drop a).take (R.length-a)=R.drop a:=by rw[tL (by simp)]
 have t:(R.drop a).length=R.length-a:=by simp
 have u:(R.take a).length=a:=by simp;omega
 have d:∀q,Z3 q (R.drop a)=R.drop a:=λq=>by
  have h:=c q;rw[J1]at h ⊢;rw[List.map_drop,h]
 have e:∀q,Z3 q (R.take a)=R.take a:=λq=>by
  have h:=c q;rw[J1]at h ⊢;rw[map_take,h]
 obtain⟨i,y,j,k,l,n⟩:R.length-a<=1048576/\¬(R.length-a=0)/\R.length-a+a=R.length/\R.length<=1048576/\a+(R.length-a)=R.length/\¬R.length<=a:=by omega
 obtain⟨o,p⟩:¬R.length<=R.length-a/\min a R.length=a:=by omega
 simp[r,L5,l,s,n,i,W4,p,j,o,k];exact Z6 b [(2,10)] (by simp[c,d,e])
def CB(l:Lt):Lt:=if l.k=2 then { l with o:=!l.o } else l
def BP(ls:List Lt):Nat→Nat
 | 0=>0
 | k+1=>if As (at' ls (ls.length - (k+1))) && !down ls (ls.length - (k+1))then ls.length - (k+1)else BP ls k
def U2(a:Nat)(ls:List Lt):List Lt:=ls.drop a++ls.take a
def Bi(ls:List Lt):List Lt:=U2 (BP ls ls.length) (ls.map CB)
theorem Ga(l:Lt):(CB l).k=l.k:=by unfold CB;split<;>rfl
theorem Qe(l:Lt):(CB l).g=l.g:=by unfold CB;split<;>rfl
theorem ZH(l:Lt):(CB l).r=l.r:=by unfold CB;split<;>rfl
theorem Ft(l:Lt):(CB l).i=l.i:=by unfold CB;split<;>rfl
theorem yC(l:Lt):(CB l).s=l.s:=by unfold CB;split<;>rfl
theorem Zw1{l:Lt}(h:l.k=1):CB l=l:=by unfold CB;rw[iN (by omega)]
theorem Qp{l:Lt}(h:l.k=2):CB l={ l with o:=!l.o }:=by unfold CB;rw[iP h]
theorem VU(l:Lt):As (CB l)=As l:=by unfold As;rw[Ga]
theorem Sa(l:Lt):AO (CB l)=AO l:=by unfold AO;rw[Ga]
theorem Zyv(a:Nat)(ls:List Lt):(U2 a ls).length=ls.length:=by simp[U2];omega
theorem MT(p:Lt->Bool)(a:Nat)(ls:List Lt):Z4 p (U2 a ls)=Z4 p ls:=by
 unfold U2;rw[NJ,Nat.add_comm,<-NJ,List.take_append_drop]
theorem xb{n x:Nat}(h:x<2*n):x%n=if x<n then x else x-n:=by
 split
 ·exact Nat.mod_eq_of_lt ‹_›
 rw[Nat.mod_eq_sub_mod (by omega),Nat.mod_eq_of_lt (by omega)]
def CN(n a v:Nat):Nat:=(v+n - a) % n
def KS(n a v:Nat):Nat:=(v+a) % n
theorem RQ{n a v:Nat}(b:a<n)(c:v<n):CN n a v=if v<a then v+n-a else v-a:=by
 unfold CN;rw[xb (by omega)];grind
theorem zN{n a v:Nat}(b:a<n)(c:v<n):KS n a v=if v+a<n then v+a else v+a-n:=by
 unfold KS;rw[xb (by omega)]
theorem nH{ls:List Lt}{a v:Nat}(b:a<ls.length)(c:v<ls.length):at' (U2 a ls) (CN ls.length a v)=at' ls v:=by
 rw[RQ b c];unfold at' U2;grind
theorem OY(ls:List Lt):Z0 (ls.map CB)=Z0 ls:=by
 unfold Z0;rw[UK];exact J3 λl _=>VU l
theorem dO{ls:List Lt}{a v:Nat}(c:a<ls.length)(d:v<ls.length):Z0 ((U2 a ls).take (CN ls.length a v))+Z0 (ls.take a)=Z0 (ls.take v)+if v<a then Z0 ls else 0:=by
 have b:∀x y:List Lt,Z0 (x++y)=Z0 x+Z0 y:=λx y=>NJ _ x y;rw[RQ c d];unfold U2;split
 ·have e:v+ls.length-a=(ls.drop a).length+v:=by simp;omega
  rw[e,List.take_length_add_append,b,List.take_take,Nat.min_eq_left (by omega)];have:=b (ls.take a) (ls.drop a);rw[List.take_append_drop]at this;omega
 rw[List.take_append_of_le_length (by simp;omega)];have:ls.take v=ls.take a++(ls.drop a).take (v-a):=by
  rw[<-List.take_add,show a+(v-a)=v by omega]
 rw[this,b];omega
theorem Xq{ls:List Lt}:∀k,k<=ls.length->(∃i,ls.length-k<=i/\i<ls.length/\As (at' ls i)=true/\down ls i=false)->BP ls k<ls.length/\As (at' ls (BP ls k))=true/\down ls (BP ls k)=false
 |0,_,⟨i,b,a,_⟩=>by omega
 |k+1,e,⟨i,b,a,c,d⟩=>by
  simp only[BP];split
  ·grind
  rename_i h;refine Xq k (by omega) ⟨i,?_,a,c,d⟩;grind
theorem ON{ls:List Lt}{i:Nat}(hi:i<ls.length):Z0 (ls.take (i+1))=Z0 (ls.take i)+if As (at' ls i)then 1 else 0:=by
 have e:ls.take (i+1)=ls.take i++[at' ls i]:=by
  rw[List.take_add_one,gE hi,at',List.getD,gE hi];rfl
 unfold Z0;rw[e,NJ,Pf];rfl
theorem Wt{ls:List Lt}(e:0<Z0 ls)(f:Z0 ls%2=0):∃i,i<ls.length/\As (at' ls i)=true/\down ls i=false:=by
 refine Classical.byContradiction λc=>?_;have:∀i,i<=ls.length->Z0 (ls.take i)<=1:=by
  intro i;induction i with
  |zero=>intro _;simp[Z0,Z4]
  |succ i d=>
   intro hi;have b:=ON (ls:=ls) (i:=i) (by omega);have:=d (by omega);by_cases h:As (at' ls i)=true
   ·rw[iP h]at b;have a:down ls i=true:=by
     cases a:down ls i with
     |true=>rfl
     |false=>exact absurd ⟨i,by omega,h,a⟩ c
    unfold down at a;simp only[beq_iff_eq]at a;omega
   rw[iN h]at b;omega
 have:=this ls.length (lR _);grind
section
variable {f:Int} {ls:List Lt}
theorem QS(p:Lt->Bool):Z4 p (Bi ls)=Z4 (λl=>p (CB l)) ls:=by
 unfold Bi;rw[MT,UK]
theorem Ybk{l:Lt}(h:BQ f ls l=true):BQ f (Bi ls) (CB l)=true:=by
 have u:X6 (Bi ls)=X6 ls:=by unfold X6;rw[QS];exact J3 λl _=>Sa l
 rcases WH h with j|j
 ·obtain⟨a,b,c,d,e,m,n,p⟩:=(JY j).1 h;rw[Zw1 j,JY j];refine⟨a,b,c,d,e,m,?_,?_⟩
  ·unfold Bl;rw[QS,J3 (q:=λo=>As o&&o.g == l.g) λo _=>by rw[VU,Qe]];exact n
  unfold same;rw[QS,J3 (q:=λo=>o.k == l.k&&o.g == l.g&&o.r == l.r) λo _=>by rw[Ga,Qe,ZH]];exact p
 obtain⟨a,b,c,d,e,m,n⟩:=(Ik j).1 h;rw[Qp j];refine(Ik (show ({ l with o:=!l.o }:Lt).k=2 from j)).2 ⟨a,b,c,d,by rw[u];exact e,?_,?_⟩
 ·unfold JV;rw[QS,J3 (q:=λo=>o.k == l.k&&o.i == l.i&&o.s == l.s&&o.o != l.o) λo _=>by
   rw[Ga,Ft,yC];by_cases t:o.k=2
   ·rw[Qp t];simp only
    congr 1
    cases o.o<;>cases l.o<;>rfl
   grind]
  exact m
 unfold J8;rw[QS,J3 (q:=λo=>AO o&&o.i == l.i) λo _=>by rw[Sa,Ft]];exact n
theorem E8:(Bi ls).length=ls.length:=by unfold Bi;rw[Zyv,lM]
theorem UB:Z0 (Bi ls)=Z0 ls:=by unfold Z0;rw[QS];exact J3 λl _=>VU l
theorem zO:X6 (Bi ls)=X6 ls:=by unfold X6;rw[QS];exact J3 λl _=>Sa l
theorem Zyk{v:Nat}(c:BP ls ls.length<ls.length)(b:v<ls.length):at' (Bi ls) (CN ls.length (BP ls ls.length) v)=CB (at' ls v):=by
 unfold Bi;have:=nH (ls:=ls.map CB) (a:=BP ls ls.length) (v:=v) (by simpa using c) (by simpa using b);rw[lM]at this;rw[this];exact Z8e _ b
theorem sj(l:Lt):pos (Bi ls) (CB l)=pos ls l:=by
 unfold pos;rw[QS,Qe,ZH]
 congr 1
 exact J3 λo _=>by rw[VU,Qe]
theorem AH.IL(h:AH f ls)(I:ls≠[]):AH f (Bi ls)/\FV (Vf (Bi ls))=FV (Vf ls):=by
 have m:0<ls.length:=List.length_pos_iff.2 I;have z:∀l,l∈Bi ls->BQ f (Bi ls) l=true:=λl hm=>by
  have hm:l∈ls.map CB:=by
   unfold Bi U2 at hm;grind
  obtain⟨l0,D,rfl⟩:=mM.1 hm;exact Ybk (h.Ea _ D)
 obtain⟨U,V,r3⟩:=AH.Cq h.lo h.Ea;obtain⟨S,T,q3⟩:=AH.Cq h.lo z;have q:=h.wv I;obtain⟨i,O,P,Q⟩:=Wt q.Eo h.Jk;obtain⟨t,E,u⟩:=Xq ls.length (lR _) ⟨i,by omega,O,P,Q⟩;have c:=λv b=>Zyk (v:=v) t b;have N:∀v,v<ls.length->down (Bi ls) (CN ls.length (BP ls ls.length) v) = !down ls v:=λv b=>by
  have D:=dO (ls:=ls.map CB) (a:=BP ls ls.length) (v:=v) (by simpa using t) (by simpa using b);rw[lM,<-map_take,<-map_take,OY,OY,OY]at D;have Y:Z0 (ls.take (BP ls ls.length))%2=1:=by
   unfold down at u;simp only[beq_eq_false_iff_ne,ne_eq]at u;omega
  have Z:=h.Jk;unfold down Bi;grind
 have d:=λv b=>RQ (n:=ls.length) (a:=BP ls ls.length) (v:=v) t b;have p:=λv b=>zN (n:=ls.length) (a:=BP ls ls.length) (v:=v) t b;have j:∀v,v<ls.length->CN ls.length (BP ls ls.length) v<ls.length:=λv b=>Nat.mod_lt _ m;have r:∀v,v<ls.length->KS ls.length (BP ls ls.length) v<ls.length:=λv b=>Nat.mod_lt _ m;have y:∀v,v<ls.length->KS ls.length (BP ls ls.length) (CN ls.length (BP ls ls.length) v)=v:=λv b=>by
  rw[p _ (j v b),d v b];split<;>split<;>omega
 have C:∀v,v<ls.length->CN ls.length (BP ls ls.length) (KS ls.length (BP ls ls.length) v)=v:=λv b=>by
  rw[d _ (r v b),p v b];split<;>split<;>omega
 have w:RK ls (Bi ls) (CN ls.length (BP ls ls.length)) (KS ls.length (BP ls ls.length)) true:=by
  refine⟨q,E8,UB,j,r,y,C,λv b=>?_,λv b=>by rw[c v b,Ga],λv b g=>?_,λv b g=>?_,λv b g=>?_,λv b g=>?_⟩
  ·have hm:=Nat.mod_lt (v+ls.length-1) m;rw[d _ hm,QH b,QH (j v b),d v b];split<;>split<;>split<;>(try split)<;>omega
  ·obtain⟨w1,w2,w3,w4,w5⟩:=q.Cp v b g;obtain⟨n1,n2⟩:=h.CK b g;have G:CN ls.length (BP ls ls.length) (V4 ls v ls.length 0)≠CN ls.length (BP ls ls.length) v:=λe=>by
    grind
   refine fV ?_ ?_ ls.length 0 (Nat.zero_le _) (by have:=j _ w1;omega) (by rw[E8];omega)
   ·rw[c _ w1,c v b,Sa,Ft,Ft,n2];simp[G,AO,w2]
   intro x B H;rw[E8]at H;have A:=r x H;have ex:=C x H;rw[<-ex]at B ⊢;rw[c _ A,c v b,Sa,Ft,Ft]at B;simp only[bA,bne_iff_ne,ne_eq,beq_iff_eq,AO]at B;obtain⟨⟨X,J⟩,K⟩:=B;rcases h.uniq b g A J K with e|e
   ·grind
   rw[e]
  ·rw[c v b,Qp g];simp only;cases (at' ls v).o<;>cases ((at' ls v).s == 1)<;>rfl
  ·simp_all
  rw[iP rfl,Lp V U b g,Lp T S (by rw[E8];exact j v b) (by rw[c v b,Ga];exact g),c v b,sj]
 have F:∀v,v<(Bi ls).length->(at' (Bi ls) v).k≠2->(at' (Bi ls) v).k=1:=λv b g=>by
  rw[E8]at b;rw[<-C v b,c _ (r v b),Ga]at g ⊢;exact q.Cs _ (r v b) g
 obtain⟨L,M⟩:=Yg8 q.Eo q.Cs F E8 UB (Yif w);refine⟨⟨by rw[E8];exact h.len,by rw[zO];exact h.vis,h.lo,h.hi,?_,by rw[UB];exact h.Jk,z,?_⟩,L⟩
 ·have e:CN ls.length (BP ls ls.length) (BP ls ls.length)=0:=by grind
  have:=c _ t;rw[e]at this;rw[this,Ga];simpa[As]using E
 rw[E8,UB,zO,M];exact h.Gu
end
end Go.Ad
namespace Go.AE
open Go.RowKit
def Gr(b N:Nat)(id:Nat)(f:Ah→Aa)(get:Nat→Option Af):Ba→Option (Aa×List (Nat×Option Af))
 | .Dj x=>match f x with
  | .sl b' off _=>if b'=b∧off≤N then some (.int .i64 ((N - off:Nat):Int),[])else none
  | _=>none
 | .bin .gtr e x y=>match f y with
  | .atLeast _=>none
  | _=>Ak id f get (.bin .gtr e x y)
 | .append k bytes z s x=>match f s with
  | .sl b' off len=>if b'=b then match I1 get k (f x),N7 get k (.sl b' off len)with
   | some xs,some olds=>if N<off+len+xs.length then (if len+xs.length≤W6∧bytes≤W6∧olds.length=len then some (.sl id 0 (len+xs.length),[(id,some (.cells k (olds++xs)))])else none)else Ak id f get (.append k bytes z s x)
   | _,_=>none
   else Ak id f get (.append k bytes z s x)
  | _=>Ak id f get (.append k bytes z s x)
 | .BI k bytes z s x=>match f s,f x with
  | .sl b' off len,.int _ n=>if b'=b∧0≤n then match N7 get k (.sl b' off len)with
   | some olds=>if N<off+len+n.toNat∧len+n.toNat≤W6∧bytes≤W6∧olds.length=len then some (.sl id 0 (len+n.toNat),[(id,some (.cells k (olds++replicate n.toNat z)))])else none
   | none=>none
   else none
  | _,_=>none
 | op=>Ak id f get op
theorem Yg1{b N id:Nat}{t:List Aa}{m:Mem}{op:Ba}{v:Aa}{d:List (Nat×Option Af)}(h:Gr b N id (ev t) m.get op=some (v,d)):Jr b N true id t m op=some (v,m.apply d):=by
 unfold Gr at h;split at h
 ·rename_i x;simp only[Jr];split at h<;>first|(cases h;done)|skip
  rename_i b' off len i;split at h<;>first|(cases h;done)|skip
  rename_i f;simp only[oI,AT]at h;obtain⟨rfl,rfl⟩:=h;rw[i];simp only;rw[iP f];rfl
 ·rename_i e x y;have g:¬ ∃k,ev t y=.atLeast k:=by
   rintro⟨k,u⟩;rw[u]at h;cases h
  have r:Ak id (ev t) m.get (.bin .gtr e x y)=some (v,d):=by
   split at h<;>first|(cases h;done)|exact h
  have:=JO r;simp only[Jr];grind
 ·rename_i k a z s x;simp only[Jr];cases g:ev t s with
  |sl b' off len=>
   rw[g]at h;simp only at h ⊢;split at h
   ·rename_i n;rw[iP n];have p:J0 m k (ev t x)=I1 m.get k (ev t x):=rfl;have q:G8 m k (.sl b' off len)=N7 m.get k (.sl b' off len):=rfl;rw[p,q];cases i:I1 m.get k (ev t x)with
    |none=>grind
    |some xs=>
     cases w:N7 m.get k (.sl b' off len)with
     |none=>grind
     |some j=>
      rw[i,w]at h;simp only at h ⊢;split at h
      ·rename_i l;rw[iP l];split at h
       ·rename_i f;rw[iP f];simp only[oI,AT]at h;obtain⟨rfl,rfl⟩:=h;rfl
       cases h
      rename_i l;rw[iN l];exact JO h
   rename_i n;rw[iN n];exact JO h
  |_=>
   rw[g]at h;exact JO h
 ·rename_i k a z s x;simp only[Jr];split at h<;>first|(cases h;done)|skip
  rename_i b' off len kx nn g i;split at h<;>first|(cases h;done)|skip
  rename_i f;rw[g,i];simp only;rw[iP f];have c:G8 m k (.sl b' off len)=N7 m.get k (.sl b' off len):=rfl;rw[c];cases A:N7 m.get k (.sl b' off len)with
  |none=>grind
  |some j=>
   rw[A]at h;simp only at h ⊢;split at h<;>first|(cases h;done)|skip
   rename_i o;rw[iP o];simp only[oI,AT]at h;obtain⟨rfl,rfl⟩:=h;rfl
 rename_i op B C D E;have:=JO h;unfold Jr;grind
def Dv:Option Af→Prop
 | some (.cells k _)=>0<k
 | _=>False
def Qa(m:Ac):List Aa→Prop
 | [.sl b1 _ l1,.sl b2 _ l2]=>b1≠b2∧0<l1∧0<l2∧Dv (m.get b1)∧Dv (m.get b2)
 | _=>False
section
variable {P:Program} {b N G n base:Nat}
def Fq(P:Program)(b N G n base:Nat):List Ag→Nat→(Env→Ac→Prop)→Env→Ac→Prop
 | [],_,K,e,m=>K e m
 | o :: r,i,K,e,m=>HO (S2 n e o.guard)
  (match o.op with
  | .call f xs=>PC (U9 n e f xs) fun g args=>g=G∧Qa m args∧Fq P b N G n base r (i+1) K (Y8 e o.dst (.bool false)) m
  | op=>He (Gr b N (base+i) (AG n e) m.get op) fun v d=>Fq P b N G n base r (i+1) K (Y8 e o.dst v) (m.app d))
  (Fq P b N G n base r (i+1) K (Y8 e o.dst Ai) m)
theorem yL{e:Env}{f:Ah}{xs:List Ah}{g:FuncId}{args:List Aa}(h:U9 n e f xs=some (g,args)):KE (AQ n e) f xs=some (.func g,args):=by
 unfold U9 at h;unfold KE;rw[K8];grind
theorem cR{K:Env->Ac->Prop}{K':AY->Prop}(l:∀e m,K e m->K' ⟨AQ n e,m.mem⟩):∀(k:List Ag) (i:Nat) (e:Env) (m:Ac),Fq P b N G n base k i K e m->K6 (Jr b N true) (Zn P G) base k i K' (AQ n e) m.mem
 |[],_,_,_,h=>l _ _ h
 |o::r,i,e,m,h=>by
  simp only[Fq]at h;simp only[K6,Qh];cases z:S2 n e o.guard with
  |none=>rw[z]at h;exact h
  |some q=>
   rw[z]at h;cases q with
   |false=>
    simp only[J9];exact cR l r _ _ _ h
   |true=>
    simp only[HO]at h;simp only;have a:∀op,He (Gr b N (base+i) (AG n e) m.get op) (λv d=>Fq P b N G n base r (i+1) K (Y8 e o.dst v) (m.app d)) ->
     (match Jr b N true (base+i) (AQ n e) m.mem op with|some (v,m')=>K6 (Jr b N true) (Zn P G) base r (i+1) K' (put (AQ n e) o.dst v) m'|none=>False):=by
     intro op c;cases w:Gr b N (base+i) (AG n e) m.get op with
     |none=>rw[w]at c;exact c.elim
     |some X=>
      obtain⟨v,d⟩:=X;rw[w]at c;have:=Yg1 (t:=AQ n e) (m:=m.mem) (op:=op) (v:=v) (d:=d) (b:=b) (N:=N) (id:=base+i) (by rw[K8];exact w);rw[this];simp only[J9];rw[<-Ac.Bw];exact cR l r _ _ _ c
    cases j:o.op with
    |call f xs=>
     simp only[j]at h;simp only;cases u:U9 n e f xs with
     |none=>rw[u]at h;exact h.elim
     |some H=>
      obtain⟨g,args⟩:=H;rw[u]at h;obtain⟨I,p,c⟩:=h;rw[yL u,I];simp only;refine .inr ⟨rfl,?_⟩;unfold Qa at p;split at p<;>first|exact p.elim|skip
      rename_i A Q M B S O;obtain⟨T,U,V,y,s⟩:=p;unfold Dv at y s;split at y<;>first|exact y.elim|skip
      rename_i J C E;split at s<;>first|exact s.elim|skip
      rename_i L D F;refine⟨A,Q,M,B,S,O,J,C,L,D,rfl,T,U,V,s,E,F,?_⟩;simp only[J9];exact cR l r _ _ _ c
    |_=>rw[j]at h;exact a _ h
def Hf(P:Program)(b N G n:Nat):An→(Exit→Env→Ac→Prop)→Env→Ac→Prop
 | .skip,Q,e,m=>Q .normal e m
 | .region false ops,Q,e,m=>Fq P b N G n m.next ops 0 (Q .normal) e (m.at (m.next+ops.length))
 | .region true ops,Q,e,m=>ops.all G9=true∧V7 P false n m.next ops 0 (Q .normal) e (m.at (m.next+ops.length))
 | .seq x y,Q,e,m=>Hf P b N G n x (O0 (Hf P b N G n y Q) Q) e m
 | .cond c x y,Q,e,m=>Ic (AG n e c) (Hf P b N G n x Q e m) (Hf P b N G n y Q e m)
 | .ret,Q,e,m=>Q .ret e m
 | _,_,_,_=>False
theorem Ycl{c:An}:∀{Q:Exit->Env->Ac->Prop}{R:Exit->AY->Prop}{e:Env}{m:Ac},Hf P b N G n c Q e m->(∀x e m,Q x e m->R x ⟨AQ n e,m.mem⟩)->S4 (IQ P true (Jr b N true) (Zn P G)) true c R ⟨AQ n e,m.mem⟩:=by
 induction c with
 |skip=>exact λh a=>a _ _ _ h
 |region i d=>
  intro Q R e m h a;cases i with
  |false=>exact cR (a .normal) d 0 e _ h
  |true=>
   refine⟨rfl,?_⟩;have o:=XD d [] e _ (UT d [] e _ (yS h.1) (aR d 0 _ _ h.1 h.2));exact QA (P:=P) (c:=.region true d) (Q:=λ_ σ=>∃(k:Env) (l:Ac),σ=⟨AQ n k,l.mem⟩/\Q .normal k l) (Q':=λ_ σ=>R .normal σ) (σ:=⟨AQ n e,m.mem⟩) o λx σ j=>by
    grind
 |seq x y f g=>
  intro Q R e m h a;refine f h λx e m j=>?_;cases x<;>first|exact g j a|exact a _ _ _ j
 |cond c x y f g=>
  intro Q R e m h a;simp only[Hf]at h;simp only[S4,K8];generalize AG n e c=v at h;cases v<;>first|exact h.elim|skip
  rename_i q;cases q
  ·exact g h a
  exact f h a
 |ret=>exact λh a=>a _ _ _ h
 |_=>intro Q R e m h;exact h.elim
def HA(m:Ac)(b k:Nat)(els:List (List Aa))(N:Nat):Ac:=m.app [(b,some (.cells k (els++replicate (N - els.length) (replicate k .bot))))]
theorem BR.pref{Φ:Ap}{ρ:AI}{k:Nat}{els a:List (List Aa)}{l:Loc}{o:Obj}(h:BR Φ ρ (.cells k (els++a)) l o):BR Φ ρ (.cells k els) l o:=by
 cases h with
 |cells k d l c e p q b g m=>
  have f:∀(i:Nat) (row:List Aa),els[i]?=some row->(els++a)[i]?=some row:=λi row hi=>by
   grind
  refine .cells k els l c e p q (by simp at b;omega) ⟨λi row hi=>g.1 i row (f i row hi),λi row j x hi n=>g.2 i row j x (f i row hi) n⟩ m
def Trim(mt m:Ac):Prop:=m.next=mt.next ∧ ∀ b x,mt.get b=some x→m.get b=some x ∨ ∃ k els rest,x=.cells k els∧m.get b=some (.cells k (els++rest))
theorem Trim.rel{mt m:Ac}(c:Trim mt m){W:Aq}{Φ:Ap}{ρ:AI}{w:World}(h:Rel W Φ ρ m.mem w):Rel W Φ ρ mt.mem w:=by
 refine⟨h.base,h.AX,λb x d=>?_,λb b' x C l l' r s t u v=>?_,λb l z=>?_,h.BH⟩
 ·rcases c.2 b x d with g|⟨k,els,f,rfl,g⟩
  ·exact h.live b x g
  obtain⟨l,o,i,j,n,p,q⟩:=h.live b _ g;exact⟨l,o,i,j,n,p,q.pref⟩
 ·have a:∀b x,mt.get b=some x -> ∃y,m.get b=some y:=λb x d=>by
   rcases c.2 b x d with g|⟨_,_,_,_,g⟩<;>exact ⟨_,g⟩
  obtain⟨y,A⟩:=a _ _ r;obtain⟨B,e⟩:=a _ _ s;exact h.inj b b' y B l l' A e t u v
 have:=h.fresh b l z;show b<mt.next;rw[<-c.1];exact this
def Jw(n0:Nat)(K:Aa→Ac→Prop)(v:Aa)(m:Ac):Prop:=∃ mt,Trim mt m∧R9 n0 K v mt
theorem Trim.refl(m:Ac):Trim m m:=⟨rfl,λ_ _ h=>.inl h⟩
theorem Yej(hm:P.follows .mixedOrders=true){f:FuncId}{fn:Func}{d:AD}{args:List Aa}{m:Ac}{K:Aa->Ac->Prop}{k:Nat}{els:List (List Aa)}(hG:OK P G)(U:P.funcs[f]?=some fn)(hc:Bk P fn=some d)(F:Nat.ble args.length d.ntmps=true)
 (o:m.get b=some (.cells k els))
 (h:∀N,els.length<=N->Hf P b N G d.ntmps d.body (L3 d.ntmps d.results (Jw m.next K)) (R4 0 args []) (HA m b k els N)):Bo P f args m K:=by
 obtain⟨c,B,p,Cz,ab,q⟩:=UE hc;have aa:args.length<=d.ntmps:=Nat.le_of_ble_eq_true F;refine⟨⟨fn,U,q,by rw[B];rfl⟩,λW Φ ρ vs w H ha BE=>?_⟩;have J:=Ss (k:=fn.ntmps) ha;have L:RL Φ ρ (AQ d.ntmps (R4 0 args [])) (vs++Array.replicate (fn.ntmps-vs.size) undef):=by
  refine J.sub (by rw[M0];simp;omega) λi x j=>?_;have hi:i<d.ntmps:=by
   have:=(gS.1 j).1;rwa[M0]at this
  rw[H7 hi,Sr]at j;injection j with j
  by_cases E:0<=i/\i<0+args.length
  ·grind
  rw[iN E]at j;exact .inl j.symm
 obtain⟨l,ob,C,D,O,g4,g5⟩:=H.live b _ o;have V:l.sh+els.length<=l.n:=by
  cases g5 with
  |cells _ _ _ c e q1 q2 q3 q4 q5=>exact q3
 obtain⟨N,hN⟩:∃N,l.n=l.sh+N:=⟨l.n-l.sh,by omega⟩;have I:Rel W Φ ρ (HA m b k els N).mem w:=by
  have:=Zwn (N:=N) H o C (by omega) (by omega);have e:(HA m b k els N).mem=m.mem.set b (.cells k (els++replicate (N-els.length) (replicate k .bot))):=by
   unfold HA;rw[Ac.Bw];rfl
  grind
 have T:=Ycl (h N (by omega)) (R:=λx σ=>match x with
  |.normal=>∃e g,σ=⟨AQ d.ntmps e,Ac.mem g⟩/\D3 (Jw m.next K) g (Q9 d.ntmps e g d.results)
  |.ret=>∃e g,σ=⟨AQ d.ntmps e,Ac.mem g⟩/\D3 (Jw m.next K) g (Q9 d.ntmps e g d.results)
  |_=>False) λx e g j=>by
   cases x<;>first|exact j.elim|exact⟨e,g,rfl,j⟩
 rw[p]at T;have hs:=kE (n:=0) hm RJ.mono (rq Open.wide b N true) (Zzg hG) c _ _ T W Φ ρ ⟨l,C,hN⟩ { tmps:=vs++Array.replicate (fn.ntmps-vs.size) undef,defers:=[] } w I L rfl;refine calls_of_wp U B (wp_mono (wpIn_wide.1 hs) λx a w' F=>?_);obtain⟨σ,t,ρ',Q,E,h3,S,h5,h6,z⟩:=F;have A:(∃e g,σ=⟨AQ d.ntmps e,Ac.mem g⟩/\D3 (Jw m.next K) g (Q9 d.ntmps e g d.results))->a.defers=[] /\ ∃v,(results fn a.tmps).run P w'=.ok v w' /\
  ∃Z r g t ρ',Ending.returned v=.returned Z/\Ext Φ ρ t ρ'/\(∀b,b<m.mem.next->b∉([]:List Nat)->ρ b=none->ρ' b=none)/\Rel W t ρ' g w'/\R t ρ' r Z/\m.mem.next<=g.next /\ ∃Y:Ac,g=Y.mem/\K r Y:=by
  rintro⟨e,g,rfl,hh⟩;obtain⟨v,C,mt,ht,v0,m0,l,D,O⟩:=Wz hh;obtain⟨u,k1,k2⟩:=QO S h5 Cz C;obtain⟨s,j1,j2,j3⟩:=D.rel (n:=1) (vs:=#[u]) (ht.rel S) ⟨rfl,λi x y j hy=>by
   cases i with
   |zero=>
    rw[H7 (by omega)]at j;simp only[Env.get,if_true,oI]at j;grind
   |succ i=>simp at hy⟩
  have k3:R t s v0 u:=j3.2 0 v0 u (by rfl) rfl;have M:∀b,b<m.next->s b=ρ b:=λb o=>(j1 b o).trans (by
   cases X:ρ b with
   |none=>exact E b o X
   |some l=>exact Q.CN b l X)
  refine⟨h6,u,k1,u,v0,m0.mem,t,s,rfl,⟨Q.AX,λb l o=>?_⟩,λb o _ h0=>(M b o).trans h0,j2,k3,D.1,m0,rfl,O⟩;exact(M b (H.fresh b l o)).trans o
 cases x with
 |normal=>exact A z
 |ret=>exact A z
 |exit i=>exact z.elim
 |goto l=>exact z.elim
 |panic ch=>exact z.elim
 |outgrown=>exact z.elim
theorem lY(hm:P.follows .mixedOrders=true){f:FuncId}{fn:Func}{d:AD}{args:List Aa}{m:Ac}{a:Aa->Ac->Prop}{b G k:Nat}{els:List (List Aa)}(i:OK P G)(p:P.funcs[f]?=some fn)(n:Bk P fn=some d){c:Nat}{e:List (Nat×Option (Option Nat))}{bd:An}(o:d=⟨c,e,bd⟩)
 (q:Nat.ble args.length c=true) (l:m.get b=some (.cells k els))
 (h:∀K:Aa->Ac->Prop,(∀r g,a r g->K r g) -> ∀N,els.length<=N->Hf P b N G c bd (L3 c e (Jw m.next K)) (R4 0 args []) (HA m b k els N)):Bo P f args m a:=by
 subst o;exact Yej hm i p n q l λN j=>h a (λ_ _ h=>h) N j
variable {K:Env→Ac→Prop} {Q:Exit→Env→Ac→Prop} {e:Env} {m:Ac}
theorem ZP:Hf P b N G n .skip Q e m=Q .normal e m:=propext Iff.rfl
theorem bH(a:List Ag):Hf P b N G n (.region false a) Q e m=Fq P b N G n m.next a 0 (Q .normal) e (m.at (m.next+a.length)):=propext Iff.rfl
theorem cC(a:List Ag):Hf P b N G n (.region true a) Q e m=(a.all G9=true/\V7 P false n m.next a 0 (Q .normal) e (m.at (m.next+a.length))):=propext Iff.rfl
theorem bM(x y:An):Hf P b N G n (.seq x y) Q e m=Hf P b N G n x (O0 (Hf P b N G n y Q) Q) e m:=propext Iff.rfl
theorem bI(c:Ah)(x y:An):Hf P b N G n (.cond c x y) Q e m=match AG n e c with
 |.bool true=>Hf P b N G n x Q e m
 |.bool false=>Hf P b N G n y Q e m
 |_=>False:=by
 simp only[Hf];unfold Ic;rfl
theorem dP:Hf P b N G n .ret Q e m=Q .ret e m:=propext Iff.rfl
theorem fT{i:Nat}:Fq P b N G n base [] i K e m=K e m:=propext Iff.rfl
theorem ZO{i:Nat}(d:Option Nat)(op:Ba)(un:List Nat)(r:List Ag):Fq P b N G n base (⟨d,op,none,un⟩ :: r) i K e m=match op with
 |.call f xs=>(match U9 n e f xs with
  |some (g,args)=>g=G/\Qa m args/\Fq P b N G n base r (i+1) K (Y8 e d (.bool false)) m
  |none=>False)
 |op=>(match Gr b N (base+i) (AG n e) m.get op with
  |some (v,w)=>Fq P b N G n base r (i+1) K (Y8 e d v) (m.app w)
  |none=>False):=by
 rfl
variable {id:Nat} {f:Ah→Aa} {get:Nat→Option Af}
theorem cS(x:Ah):Gr b N id f get (.Gl x)=Ak id f get (.Gl x):=rfl
theorem cH(x:Ah):Gr b N id f get (.BW x)=Ak id f get (.BW x):=rfl
theorem eN(q:Fv)(x y:Ah):Gr b N id f get (.bin .add q x y)=Ak id f get (.bin .add q x y):=rfl
theorem eC(q:Fv)(x y:Ah):Gr b N id f get (.bin .sub q x y)=Ak id f get (.bin .sub q x y):=rfl
theorem ZT(q:Fv)(x y:Ah):Gr b N id f get (.bin .eql q x y)=Ak id f get (.bin .eql q x y):=rfl
theorem fO(q:Fv)(x y:Ah):Gr b N id f get (.bin .gtr q x y)=match f y with
 |.atLeast _=>none
 |_=>Ak id f get (.bin .gtr q x y):=rfl
theorem bN(q:UnOp)(x:Ah):Gr b N id f get (.un q x)=Ak id f get (.un q x):=rfl
theorem fN(k:Nat)(x:Ah)(l h z:Option Ah):Gr b N id f get (.Er k x l h z)=Ak id f get (.Er k x l h z):=rfl
theorem bS(k:Nat)(x y:Ah):Gr b N id f get (.copy k x y)=Ak id f get (.copy k x y):=rfl
theorem dJ(x:Ah):Gr b N id f get (.Dj x)=match f x with
 |.sl b' off _=>if b'=b/\off<=N then some (.int .i64 ((N-off:Nat):Int),[])else none
 |_=>none:=rfl
theorem pY(k a:Nat)(z:List Aa)(s x:Ah):Gr b N id f get (.append k a z s x)=match f s with
 |.sl b' off len=>if b'=b then match I1 get k (f x),N7 get k (.sl b' off len)with
  |some xs,some c=>if N<off+len+xs.length then (if len+xs.length<=W6/\a<=W6/\c.length=len then some (.sl id 0 (len+xs.length),[(id,some (.cells k (c++xs)))])else none)else Ak id f get (.append k a z s x)
  |_,_=>none
  else Ak id f get (.append k a z s x)
 |_=>Ak id f get (.append k a z s x):=rfl
theorem mK(k:Nat)(z:List Aa)(x:Ah):Gr b N id f get (.clear k z x)=Ak id f get (.clear k z x):=rfl
theorem oF(q:Fv)(x y:Ah):Gr b N id f get (.bin .lss q x y)=Ak id f get (.bin .lss q x y):=rfl
theorem mL(q:Fv)(x y:Ah):Gr b N id f get (.bin .leq q x y)=Ak id f get (.bin .leq q x y):=rfl
theorem cW(k a:Nat)(z:List Aa)(s x:Ah):Gr b N id f get (.BI k a z s x)=match f s,f x with
 |.sl b' off len,.int _ n=>if b'=b/\0<=n then match N7 get k (.sl b' off len)with
  |some c=>if N<off+len+n.toNat/\len+n.toNat<=W6/\a<=W6/\c.length=len then some (.sl id 0 (len+n.toNat),[(id,some (.cells k (c++replicate n.toNat z)))])else none
  |none=>none
  else none
 |_,_=>none:=rfl
end
end Go.AE
