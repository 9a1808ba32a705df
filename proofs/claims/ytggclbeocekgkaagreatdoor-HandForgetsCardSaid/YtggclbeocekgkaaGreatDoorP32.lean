/- Part 32 of the proof: Tb, Rv, Po, Pp, Pq, Qa, Ya. -/
import Derived.Test.YtggclbeocekgkaaGreatDoorP20
import Derived.Test.YtggclbeocekgkaaGreatDoorP27
import Derived.Test.YtggclbeocekgkaaGreatDoorP31
import Derived.ProofKit
import Derived.Carry
import Derived.Deep.Slices
set_option linter.all false
section
namespace Go.Ac
open Go Go.AE Go.Proofs
open Go.Plain
open Go.ChangeShapes Go.WideShapes Go.RowKit Go.Deep
variable {H:Type} {enc:TypeId×Value→H} {w:World} {base:Nat} {spare:Nat→Bool} {held:Bool}
set_option maxRecDepth 100000 in
theorem qZ{n:Nat}{cs:List Value}{x:DataW H×List MemPlace}(h:DataW.trod enc Tryz.prog w base spare held n 74 cs=some x) :
 ∃ l:Lt,cs=[.int .i64 l.k,.int .i64 l.g,.int .i64 l.r,.int .i64 l.i,.int .i64 l.s,.bool l.o]:=by
 obtain⟨xs,m,_,_,hl,hlen,hf⟩:=DataW.trod_struct Tryz.underlying74 h;have hc:Tryz.prog.cellsOf 74=6:=by kernel_rfl
 have h3:Tryz.prog.cellsOf 3=1:=by kernel_rfl
 have h4:Tryz.prog.cellsOf 4=1:=by kernel_rfl
 have hk:Tryz.prog.cellsOf 72=1:=by kernel_rfl
 rw[hc]at hl
 match cs,hl with
 | [a0,a1,a2,a3,a4,a5],_=>
  match xs,hlen with
  | [x0,x1,x2,x3,x4,x5],_=>
   have e0:DataW.trod enc Tryz.prog w base spare held m 72 (([a0,a1,a2,a3,a4,a5].drop 0).take (Tryz.prog.cellsOf 72))=some x0:=hf 0 _ rfl;rw[hk]at e0;have e1:DataW.trod enc Tryz.prog w base spare held m 3 (([a0,a1,a2,a3,a4,a5].drop 1).take (Tryz.prog.cellsOf 3))=some x1:=hf 1 _ rfl;rw[h3]at e1;have e2:DataW.trod enc Tryz.prog w base spare held m 3 (([a0,a1,a2,a3,a4,a5].drop 2).take (Tryz.prog.cellsOf 3))=some x2:=hf 2 _ rfl;rw[h3]at e2
   have e3:DataW.trod enc Tryz.prog w base spare held m 3 (([a0,a1,a2,a3,a4,a5].drop 3).take (Tryz.prog.cellsOf 3))=some x3:=hf 3 _ rfl;rw[h3]at e3;have e4:DataW.trod enc Tryz.prog w base spare held m 3 (([a0,a1,a2,a3,a4,a5].drop 4).take (Tryz.prog.cellsOf 3))=some x4:=hf 4 _ rfl;rw[h3]at e4;have e5:DataW.trod enc Tryz.prog w base spare held m 4 (([a0,a1,a2,a3,a4,a5].drop 5).take (Tryz.prog.cellsOf 4))=some x5:=hf 5 _ rfl;rw[h4]at e5
   obtain⟨n0,q0,_,_⟩:=DataW.trod_int (t:=72) (k:=.i64) Tryz.underlying72 e0;obtain⟨n1,q1,_,_⟩:=DataW.trod_int (t:=3) (k:=.i64) Tryz.underlying3 e1;obtain⟨n2,q2,_,_⟩:=DataW.trod_int (t:=3) (k:=.i64) Tryz.underlying3 e2;obtain⟨n3,q3,_,_⟩:=DataW.trod_int (t:=3) (k:=.i64) Tryz.underlying3 e3;obtain⟨n4,q4,_,_⟩:=DataW.trod_int (t:=3) (k:=.i64) Tryz.underlying3 e4;obtain⟨b5,q5,_⟩:=DataW.trod_bool (t:=4) Tryz.underlying4 e5
   have r0:a0=.int .i64 n0:=by simpa using q0
   have r1:a1=.int .i64 n1:=by simpa using q1
   have r2:a2=.int .i64 n2:=by simpa using q2
   have r3:a3=.int .i64 n3:=by simpa using q3
   have r4:a4=.int .i64 n4:=by simpa using q4
   have r5:a5=.bool b5:=by simpa using q5
   subst r0 r1 r2 r3 r4 r5;exact⟨⟨n0,n1,n2,n3,n4,b5⟩,rfl⟩
def IY(l:Lt):List Value:=[.int .i64 l.k,.int .i64 l.g,.int .i64 l.r,.int .i64 l.i,.int .i64 l.s,.bool l.o]
def I2(w:World):Ao:=fun B=>match w.heap[B]? with
 | some (.cells c _ _)=>some c
 | _=>none
theorem Z12{w:World}{B:Nat}{c:Array Value}(h:I2 w B=some c):∃ e fz,w.heap[B]? = some (.cells c e fz):=by
 unfold I2 at h
 grind
theorem uI(Φ:Ao)(ρ:AD)(l:Lt)(j:Nat)(x:Aa)(h:(Ab l)[j]? = some x):∃ v,(IY l)[j]? = some v∧v.oneCell'=true∧R Φ ρ x v:=by
 match j,h with
 | 0,h=>cases h; exact⟨_,rfl,rfl,.int _ _⟩
 | 1,h=>cases h; exact⟨_,rfl,rfl,.int _ _⟩
 | 2,h=>cases h; exact⟨_,rfl,rfl,.int _ _⟩
 | 3,h=>cases h; exact⟨_,rfl,rfl,.int _ _⟩
 | 4,h=>cases h; exact⟨_,rfl,rfl,.int _ _⟩
 | 5,h=>cases h; exact⟨_,rfl,rfl,.bool _⟩
 | j+6,h=>cases h
theorem MQ(a:Addr)(n:Nat):(a.add n).block=a.block:=by unfold Addr.add; split<;>rfl
theorem VY(a:Addr)(n:Nat):(a.add n).off=a.off+n:=by
 unfold Addr.add
 grind
theorem Vy{w:World}{base:Nat}{a:Addr}{n:Nat}{cs:List Value}(h:w.cells? base a n=some cs):∀ j,j<n→w.cell? (a.add j)=cs[j]? ∧ cs.length=n:=by
 unfold World.cells? at h;split at h
 ·intro j hj;exact⟨mapM_some_get h j j (by simp[hj]),by simpa using mapM_some_length h⟩
 ·cases h
theorem VR{w:World}{a:Addr}{v:Value}(h:w.cell? a=some v):∃ c e fz,w.heap[a.block]? = some (.cells c e fz)∧c[a.off]? = some v:=by
 unfold World.cell? at h
 grind
theorem VD{w:World}{a:Addr}{v:Value}(h:w.cell? a=some v):a.spot=none:=by
 unfold World.cell? at h;split at h
 ·simp_all
 ·cases h
theorem Z70{n:Nat}{v:Value}{x:DataW H×List MemPlace}(h:DataW.trod enc Tryz.prog w 0 (fun _=>true) held n 25 [v]=some x):∃ ls:List Lt,∀ ρ,R (I2 w) ρ (.Aj (ls.map Ab)) v:=by
 have hc6:Tryz.prog.cellsOf 74=6:=by kernel_rfl
 rcases open_slice Tryz.underlying25 h with⟨h1,_⟩|⟨a,len,cap,m,n',D,Pl,h1,_,hlc,_,hm,_,hel⟩
 ·cases h1;exact⟨[],fun ρ=>.BS _ _ fun hp=>absurd hp (by omega)⟩
 ·cases h1;simp only[if_true]at hm;subst hm;rw[hc6]at hel;have hL:∀ i,∃ l:Lt,i<len→w.cells? 0 (a.add (i*6)) 6=some (IY l):=fun i=>by
   by_cases hi:i<len
   ·obtain⟨cs',g1,g2⟩:=hel i (by omega)
    obtain⟨l,rfl⟩:=qZ g2;exact⟨l,fun _=>g1⟩
   ·exact⟨default,fun h=>absurd h hi⟩
  obtain⟨L,hL⟩:=Classical.axiomOfChoice hL;rcases Nat.eq_zero_or_pos len with h0|h0
  ·subst h0;refine⟨[],fun ρ=>.BS _ _ fun hp=>?_⟩
   obtain⟨cs',g1,g2⟩:=hel 0 (by omega)
   obtain⟨l,rfl⟩:=qZ g2;have hh:=(Vy g1 0 (by omega)).1
   have e1:(a.add (0*6)).add 0=a:=by simp[Addr.add]
   rw[e1]at hh;have hsp:=VD (v:=.int .i64 l.k) hh;obtain⟨ab,ao,asp⟩:=a;simp only at hsp;subst hsp;exact⟨_,_,rfl⟩
  have hcell:∀ i j,i<len→j<6→w.cell? ((a.add (i*6)).add j)=(IY (L i))[j]?:=fun i j hi hj=>(Vy (hL i hi) j hj).1
  have hsp:a.spot=none:=by
   have:=hcell 0 0 h0 (by omega)
   have e1:(a.add (0*6)).add 0=a:=by simp[Addr.add]
   rw[e1]at this;exact VD this
  have hblk:∃ c e fz,w.heap[a.block]? = some (.cells c e fz):=by
   have:=hcell 0 0 h0 (by omega)
   obtain⟨c,e,fz,g1,_⟩:=VR (v:=.int .i64 (L 0).k) this;rw[MQ,MQ]at g1;exact⟨c,e,fz,g1⟩
  obtain⟨c,e,fz,Ck⟩:=hblk;have hat:∀ i j v,i<len→j<6→(IY (L i))[j]? = some v→c[a.off+i*6+j]? = some v:=fun i j v hi hj hv=>by
   have h2:=hcell i j hi hj;rw[hv]at h2;obtain⟨c',e',fz',g1,g2⟩:=VR h2;rw[MQ,MQ,Ck]at g1;cases g1;rw[VY,VY]at g2;exact g2
  have hget:∀ (i:Nat) (row:List Aa),(((List.range len).map L).map Ab)[i]? = some row→i<len∧row=Ab (L i):=fun i row hi=>by
   rw[List.map_map,gM]at hi;by_cases hil:i<len
   ·rw[List.getElem?_range hil]at hi;cases hi;exact⟨hil,rfl⟩
   ·rw[List.getElem?_eq_none (by simpa using hil)]at hi
    cases hi
  have hj6:∀ (l:Lt) (j:Nat) (x:Aa),(Ab l)[j]? = some x→j<6:=fun l j x hx=>(gS.1 hx).1
  refine⟨(List.range len).map L,fun ρ=>?_⟩
  obtain⟨ab,ao,asp⟩:=a;simp only at hsp Ck hat;subst hsp;have hlen:(((List.range len).map L).map Ab).length=len:=by simp
  have:=R.Aj (Φ:=I2 w) (ρ:=ρ) (((List.range len).map L).map Ab) ab ao 6 _ c (fun i j=>((IY (L i))[j]?).getD (.bool false)) (fun e=>by rw[e]at hlen; simp at hlen; omega) (by rw[hlen]; exact hlc)
   (by unfold I2; rw[Ck]) (fun i row hi=>by obtain⟨_,rfl⟩:=hget i row hi; rfl)
   (fun i row j x hi hj=>by
     obtain⟨hil,rfl⟩:=hget i row hi;obtain⟨v,g1,g2,_⟩:=uI (I2 w) ρ (L i) j x hj;rw[g1];exact⟨hat i j v hil (hj6 _ j x hj) g1,g2⟩)
   (fun i row j x hi hj=>by
     obtain⟨hil,rfl⟩:=hget i row hi;obtain⟨v,g1,_,g3⟩:=uI (I2 w) ρ (L i) j x hj;rw[g1];exact g3)
  grind
set_option maxRecDepth 100000 in
theorem Z8f{v:Value}{d:DataW H}{p:List MemPlace}{b:Nat}(hok:Value.okWide Tryz.prog w .any b 27 v)(h:DataW.Trod enc Tryz.prog w 0 (fun _=>true) held 27 v d p):∃ (f:Int) (ls:List Lt),∀ ρ,R (I2 w) ρ (cV f ls) v:=by
 unfold Value.okWide at hok;rw[Tryz.underlying27]at hok;obtain⟨cs,rfl,hsz,_⟩:=hok;obtain⟨fuel,h⟩:=h;have hc:Tryz.prog.cellsOf 27=2:=by kernel_rfl
 have h3:Tryz.prog.cellsOf 3=1:=by kernel_rfl
 have h22:Tryz.prog.cellsOf 25=1:=by kernel_rfl
 rw[hc]at hsz;obtain⟨y0,y1,n,_,hl,e0,e1⟩:=trod_struct2 Tryz.underlying27 h;obtain⟨cl⟩:=cs
 match cl,hsz with
 | [a0,a1],_=>
  simp only[h3,h22,Value.cells]at e0 e1;obtain⟨k,q0,_,_⟩:=DataW.trod_int (t:=3) (k:=.i64) Tryz.underlying3 e0;have q0':a0=.int .i64 k:=by simpa using q0
  subst q0';obtain⟨ls,hls⟩:=Z70 (v:=a1) e1;refine⟨k,ls,fun ρ=>.agg _ _ rfl fun i x v hx hv=>?_⟩
  match i,hx,hv with
  | 0,hx,hv=>cases hx; cases hv; exact .int _ _
  | 1,hx,hv=>grind
  | i+2,hx,hv=>simp at hx
end Go.Ac
end
section
namespace Go.Ac
open Go Go.AE Go.Proofs
open Go.Plain
@[simp] theorem Yd7(id : Nat)(f : Ah → Aa)(get : Nat → Option Ai)(k : Nat)(x : Ah)(lo hi : Option Ah) : Y6 id f get (.DU k x lo hi none) = match f x with
 | .Ae=>match E2 f 0 0 lo hi with
  | some _=>some (.Ae,[])
  | none=>none
 | .emp=>match E2 f 0 0 lo hi with
  | some _=>some (.emp,[])
  | none=>none
 | .Aj els=>if els.all (·.length == k)then match E2 f els.length els.length lo hi with
  | some (l,h)=>some (.Aj ((els.take h).drop l),[])
  | none=>none
  else none
 | .sl b off len=>match get b with
  | some (.cells k' els)=>if k'=k∧off+len≤els.length then match E2 f len (els.length - off) lo hi with
   | some (l,h)=>some (.sl b (off+l) (h - l),[])
   | none=>none
   else none
  | _=>none
 | _=>none:=rfl
end Go.Ac
end
section
namespace Go.Ac
open Go.Plain
theorem Lf(p:Lt→Bool)(f:Lt→Lt)(ls:List Lt):Z9 p (ls.map f)=Z9 (fun l=>p (f l)) ls:=by
 unfold Z9;rw[List.filter_map,lM];rfl
theorem Rp(f:Lt→Lt){ls:List Lt}{v:Nat}(hv:v<ls.length):at' (ls.map f) v=f (at' ls v):=by
 unfold at'
 grind
theorem A5{f:Int}{ls:List Lt}{l:Lt}(hk:l.k=1):FC f ls l=true↔l.i=0∧l.s=0∧l.o=false∧0≤l.g∧l.g≤f∧1≤l.r∧l.r≤Ay l.g ls∧same l ls=1:=by
 unfold FC
 grind
theorem RZ{f:Int}{ls:List Lt}{l:Lt}(hk:l.k=2):FC f ls l=true↔l.g=0∧l.r=0∧(l.s=1∨l.s = -1)∧1≤l.i∧l.i≤(X0 ls / 2:Nat)∧MH l ls=1∧Ou l.i ls=2:=by
 unfold FC
 grind
theorem St{f:Int}{ls:List Lt}{l:Lt}(h:FC f ls l=true):l.k=1∨l.k=2:=by
 unfold FC at h
 grind
structure Bq (f:Int) (ls:List Lt):Prop where
 len:ls.length≤400
 vis:X0 ls≤200
 lo:0≤f
 hi:f≤40
 fst:(at' ls 0).k=1
 IN:Z0 ls % 2=0
 ET:∀ l,l∈ls→FC f ls l=true
 EX:I8 (X7 ls (Z2 ls)) (2*ls.length+2*Z0 ls)=Z0 ls+X0 ls / 2+2
theorem MG{f:Int}{ls:List Lt}(he:U0 f ls=0)(h0:ls≠[]):Bq f ls:=by
 obtain⟨hf0,EK,h1,h2,h3,h4,h5,h6⟩:=yV he h0;have hF:((f.toNat:Nat):Int)=f:=by omega
 have h7:¬(400<ls.length∨200<X0 ls):=fun h=>by
  unfold U0 at he;omega
 have hb:=s8 h1 h4 h5;rw[hF]at hb;refine⟨by omega,by omega,hf0,EK,h2,h3,List.all_eq_true.1 hb,?_⟩
 rw[O5]at h6;rw[h6,h5.2.2]
theorem Bq.to{f:Int}{ls:List Lt}(h:Bq f ls):U0 f ls=0:=by
 have hF:((f.toNat:Nat):Int)=f:=by have:=h.lo; omega
 obtain⟨q1,q2,q3⟩:=rF (F:=f.toNat) (ls:=ls) (by rw[hF]; exact List.all_eq_true.2 h.ET)
 have a:=h.len;have b:=h.vis;have c:=h.lo;have d:=h.hi;unfold U0;rw[iN (by omega),iN (by omega),iP]
 refine .inr ⟨q1,h.fst,h.IN,q2,q3,?_⟩;rw[O5,q3.2.2];exact h.EX
theorem Bq.Ep{f:Int}{ls:List Lt}(hlo:0≤f)(h:∀ l,l∈ls→FC f ls l=true):Vh ls∧Rs ls∧FJ ls:=by
 have hF:((f.toNat:Nat):Int)=f:=by omega
 obtain⟨q1,q2,q3⟩:=rF (F:=f.toNat) (ls:=ls) (by grind)
 obtain⟨r1,r2⟩:=VJ (On q1) q2;exact⟨r1,r2,q3⟩
theorem Bq.wv{f:Int}{ls:List Lt}(h:Bq f ls)(h0:ls≠[]):Wv ls:=by
 obtain⟨_,_,hc⟩:=Bq.Ep h.lo h.ET;have hpos:0<ls.length:=List.length_pos_iff.2 h0;refine⟨?_,fun v hv hk=>(St (h.ET _ (O0 hv))).resolve_right hk,fun v hv hk=>?_⟩
 ·rw[← O5];exact List.length_pos_of_mem (AB.2 ⟨hpos,by simp[Am,h.fst]⟩)
 ·obtain⟨_,_,j,_,_,_,j1,j2,j3,j4,j5,j6,j7,j8⟩:=MJ hc hv (by simp[Bg,hk])
  obtain⟨_,_,j',_,_,_,g1,g2,g3,g4,g5,g6,_,g8⟩:=MJ hc j1 j3;rw[j8];have hj:j'=v:=(j7 j' g1 g3 (by rw[g4,j4])).resolve_right g2
  exact⟨j1,by simpa[Bg]using j3,by rw[g8,hj],j5,j6⟩
theorem Bq.uniq{f:Int}{ls:List Lt}(h:Bq f ls){v x:Nat}(hv:v<ls.length)(hk:(at' ls v).k=2)(hx:x<ls.length)(XB:(at' ls x).k=2)(hi:(at' ls x).i=(at' ls v).i):x=v∨x=Q4 ls v ls.length 0:=by
 obtain⟨_,_,hc⟩:=Bq.Ep h.lo h.ET;obtain⟨_,_,j,_,_,_,j1,j2,j3,j4,j5,j6,j7,j8⟩:=MJ hc hv (by simp[Bg,hk])
 rw[j8];exact j7 x hx (by simp[Bg,XB]) hi
def swL(l:Lt):Lt:=if l.k=2 then { l with o:=!l.o,s:=-l.s } else l
def swN(ls:List Lt):List Lt:=ls.map swL
theorem lZ{ls ls':List Lt}{v v':Nat}(h:∀ j,j<ls.length→Bg (at' ls' j)=Bg (at' ls j)∧(at' ls' j).i=(at' ls j).i)(hv:v<ls.length):∀ k s,s+k≤ls.length→Q4 ls' v k s=Q4 ls v k s
 | 0,_,_=>rfl
 | k+1,s,hs=>by
  simp only[Q4];rw[(h s (by omega)).1,(h s (by omega)).2,(h v hv).2,lZ (v':=v') h hv k (s+1) (by omega)]
theorem Z68{ls ls':List Lt}{f:Lt→Lt}(he:ls'=ls.map f)(hp:∀ l,Am (f l)=Am l)(v:Nat):Z8 ls' v=Z8 ls v:=by
 unfold Z8 Z0;rw[he,← List.map_take,Lf];simp only[hp]
end Go.Ac
end
section
namespace Go.Ac
open Go.Plain
def miL(f:Int)(ls:List Lt)(l:Lt):Lt:=if l.k=1 then { l with g:=f - l.g,r:=(Ay l.g ls:Int)+1 - l.r } else { l with s:=-l.s }
def miN(f:Int)(ls:List Lt):List Lt:=ls.map (miL f ls)
section
variable {f:Int} {ls:List Lt}
end
end Go.Ac
end
section
namespace Go.Ac
open Go.Plain
def sj(l:Lt):Lt:=if l.k=2 then { l with o:=!l.o } else l
def qf(ls:List Lt):Nat→Nat
 | 0=>0
 | k+1=>if Am (at' ls (ls.length - (k+1))) && !Z8 ls (ls.length - (k+1))then ls.length - (k+1)else qf ls k
def AO(a:Nat)(ls:List Lt):List Lt:=ls.drop a++ls.take a
def sk(ls:List Lt):List Lt:=AO (qf ls ls.length) (ls.map sj)
def Gl(n a v:Nat):Nat:=(v+n - a) % n
section
variable {f:Int} {ls:List Lt}
end
end Go.Ac
end
section
namespace Go.Ac
open Go.Plain
def DL(T:Nat→Nat):List Nat→Prop
 | []=>False
 | [_]=>True
 | x :: y :: r=>y=T x∧DL T (y :: r)
def S9(s:List Nat):Nat:=s.getLastD 0
def DP(s:List Nat):Nat:=s.headD 0
theorem Z0h(x:Nat):S9 [x]=x:=rfl
theorem OD(x y:Nat)(r:List Nat):S9 (x :: y :: r)=S9 (y :: r):=by
 rfl
theorem Lz:∀ {s:List Nat},s≠[]→S9 s∈s
 | [x],_=>by simp[Z0h]
 | x :: y :: r,_=>by rw[OD]; exact List.mem_cons_of_mem _ (Lz (by simp))
theorem RA{s:List Nat}(h:s≠[]):DP s∈s:=by
 cases s with
 | nil=>exact absurd rfl h
 | cons x r=>exact List.mem_cons_self
theorem SB{T:Nat→Nat}{s:List Nat}(h:DL T s):s≠[]:=fun e=>by subst e; exact h
theorem Yy{T:Nat→Nat}{x y:Nat}{r:List Nat}(h:DL T (x :: y :: r)):DL T (y :: r):=h.2
theorem VK{T:Nat→Nat}:∀ {s:List Nat},DL T s → ∀ x,x∈s → ∃ j,it T j x=S9 s
 | [y],_,x,hx=>by
  rw[List.mem_singleton]at hx;subst hx;exact⟨0,rfl⟩
 | y :: z :: r,h,x,hx=>by
  rw[OD];rcases mC.1 hx with rfl|hx
  ·obtain⟨j,hj⟩:=VK (Yy h) z List.mem_cons_self;refine⟨j+1,?_⟩;show T (it T j x)=_;have e:=uH T j x;rw[← e,← h.1];exact hj
  ·exact VK (Yy h) x hx
theorem bD{T:Nat→Nat}:∀ {s:List Nat},DL T s→s.Nodup → ∀ y,y∈s→y=DP s ∨ ∃ x,x∈s∧T x=y∧x≠S9 s
 | [z],_,_,y,hy=>by
  rw[List.mem_singleton]at hy;exact .inl hy
 | a :: b :: r,h,hn,y,hy=>by
  rw[List.nodup_cons]at hn;rcases mC.1 hy with rfl|hy
  ·exact .inl rfl
  ·refine .inr ?_;rw[OD];rcases bD (Yy h) hn.2 y hy with e|⟨x,h1,h2,h3⟩
   ·refine⟨a,List.mem_cons_self,?_,fun e2=>?_⟩
    ·rw[e]; exact h.1.symm
    ·exact hn.1 (e2 ▸ Lz (by simp))
   grind
theorem VL{S:List (List Nat)}(hn:S.flatten.Nodup):∀ {s s':List Nat} {x:Nat},s∈S→s'∈S→x∈s→x∈s'→s=s':=by
 unfold List.Nodup at hn;have h2:=(List.pairwise_flatten.1 hn).2;clear hn
 induction S with
 | nil=>grind
 | cons a r ih=>
  intro s s' x hs hs' hx hx';rw[List.pairwise_cons]at h2
  grind
theorem uZ{S:List (List Nat)}(hn:S.flatten.Nodup){s:List Nat}(h:s∈S):s.Nodup:=by
 grind
structure lU (T:Nat→Nat) (N:Nat) (S:List (List Nat)):Prop where
 seg:∀ s,s∈S→DL T s
 nd:S.flatten.Nodup
 Bo:∀ d,d<N↔d∈S.flatten
section
variable {T:Nat→Nat} {N:Nat} (hP:BJ T N)
include hP
theorem ZP:∀ (k:Nat) (seen:List Bool),k≤N→Lq T N seen → ∀ w,w∈Dw T N k seen→w.Nodup ∧ ∀ a b,a∈w→b∈w → ∃ j,it T j a=b
 | 0,seen,_,_,w,hw=>by simp[Dw]at hw
 | k+1,seen,hk,hc,w,hw=>by
  have hx:N - (k+1)<N:=by omega
  simp only[Dw]at hw;cases h:seen.getD (N - (k+1)) true with
  | true=>
   rw[h,iP rfl]at hw;exact ZP k seen (by omega) hc w hw
  | false=>
   rw[h,iN (by simp)]at hw
   rcases mC.1 hw with rfl|hw
   ·obtain⟨L,h0,h1,h2,h3,h4,h5⟩:=WB hP hc hx h;rw[h4];refine⟨VX (fun i j hi hj e=>?_) List.nodup_range',fun a b ha hb=>?_⟩
    ·have hi:i<L:=by simpa using hi
     have hj:j<L:=by simpa using hj
     have key:∀ i j,i<j→j<L→it T i (N - (k+1))≠it T j (N - (k+1)):=fun i j hij hj e=>by
      have e2:=Vq T (N - (k+1)) i (j - i);rw[show i+(j - i)=j by omega,← e]at e2
      exact h3 (j - i) (by omega) (by omega) (qY hP i hx (Ho hP hx _) e2).symm
     grind
    ·obtain⟨i,hi,rfl⟩:=mM.1 ha;obtain⟨j,hj,rfl⟩:=mM.1 hb;have hi:i<L:=by simpa using hi
     refine⟨j+(L - i),?_⟩;rw[Vq,← Vq T _ (L - i) i,show L - i+i=L by omega,h2]
   ·exact ZP k _ (by omega) (Za hP hc hx h) w hw
theorem Z67:∀ w,w∈J8 T N→w.Nodup ∧ ∀ a b,a∈w→b∈w → ∃ j,it T j a=b:=ZP hP N _ (lR _) (aJ hP)
variable {S:List (List Nat)} (hC:lU T N S)
include hC
omit hP in
theorem LK{s:List Nat}(h:s∈S):s≠[]:=SB (hC.seg s h)
omit hP in
theorem LF{s:List Nat}{x:Nat}(h:s∈S)(hx:x∈s):x<N:=(hC.Bo x).2 (List.mem_flatten.2 ⟨s,h,hx⟩)
theorem wN{s:List Nat}(h:s∈S):T (S9 s)∈S.map DP:=by
 have hl:=Lz (LK hC h);have hlt:=hP.lt _ (LF hC h hl);obtain⟨s',h1,h2⟩:=List.mem_flatten.1 ((hC.Bo _).1 hlt);rcases bD (hC.seg s' h1) (uZ hC.nd h1) _ h2 with e|⟨x,e1,e2,e3⟩
 ·grind
 ·have:=hP.inj _ _ (LF hC h1 e1) (LF hC h hl) e2;subst this;have:=VL hC.nd h h1 hl e1
  grind
omit hP in
def M1(S:List (List Nat))(x:Nat):Bool:=decide (x∈S.map DP)
def Me(T:Nat→Nat)(s:List Nat):Bool:=decide (T (S9 s)=DP s)
theorem aO{w:List Nat}(hw:w∈J8 T N){x:Nat}(hx:x∈w):∀ j,it T j x∈w
 | 0=>hx
 | j+1=>(Vg hP w hw _ (aO hw hx j)).2
theorem uf{w:List Nat}(hw:w∈J8 T N):∃ s,s∈S∧S9 s∈w∧T (S9 s)∈w.filter (M1 S):=by
 have hpos:=Z2l (n:=N) w hw;obtain⟨x,hx⟩:∃ x,x∈w:=List.exists_mem_of_length_pos hpos
 have hlt:=(Vg hP w hw x hx).1;obtain⟨s,h1,h2⟩:=List.mem_flatten.1 ((hC.Bo _).1 hlt);obtain⟨j,hj⟩:=VK (hC.seg s h1) x h2;have hl:=aO hP hC hw hx j;rw[hj]at hl;exact⟨s,h1,hl,List.mem_filter.2 ⟨(Vg hP w hw _ hl).2,by unfold M1; exact decide_eq_true (wN hP hC h1)⟩⟩
theorem y8{w:List Nat}(hw:w∈J8 T N):2≤(w.filter (M1 S)).length+(w.filter (M1 (S.filter (Me T)))).length:=by
 obtain⟨s,h1,h2,h3⟩:=uf hP hC hw;by_cases h:2≤(w.filter (M1 S)).length
 ·omega
 ·have hp:=List.length_pos_of_mem h3;obtain⟨a,ha⟩:∃ a,w.filter (M1 S)=[a]:=List.length_eq_one_iff.1 (by omega)
  have hh:=(List.mem_filter.1 h3).2;unfold M1 at hh;obtain⟨s',g1,g2⟩:=mM.1 (of_decide_eq_true hh);have hT:T (S9 s)∈w:=by grind
  have hl':S9 s'∈w:=by
   obtain⟨j,hj⟩:=VK (hC.seg s' g1) _ (RA (LK hC g1));rw[← hj,g2];exact aO hP hC hw hT j
  have h4:T (S9 s')∈w.filter (M1 S):=List.mem_filter.2 ⟨(Vg hP w hw _ hl').2,by unfold M1; exact decide_eq_true (wN hP hC g1)⟩
  rw[ha,List.mem_singleton]at h3 h4;have BT:Me T s'=true:=by
   unfold Me;rw[h4,g2,h3];simp
  have:T (S9 s)∈w.filter (M1 (S.filter (Me T))):=List.mem_filter.2 ⟨hT,by
   unfold M1;exact decide_eq_true (mM.2 ⟨s',List.mem_filter.2 ⟨g1,BT⟩,g2⟩)⟩
  grind
omit hP hC in
theorem uP(R:List (List Nat)):((List.range N).filter (M1 R)).length≤R.length:=by
 have:=List.Nodup.length_le_of_subset (l₁:=(List.range N).filter (M1 R)) (l₂:=R.map DP) (List.nodup_range.filter _) fun y hy=>by
  have:=(List.mem_filter.1 hy).2;unfold M1 at this
  grind
 simpa using this
omit hP hC in
theorem vK{f:List Nat→Nat}{c:Nat}:∀ (L:List (List Nat)),(∀ w,w∈L→c≤f w)→c*L.length≤(L.map f).sum
 | [],_=>by simp
 | w :: r,h=>by
  have h1:=h w List.mem_cons_self;have h2:=vK r fun w hw=>h w (List.mem_cons_of_mem _ hw)
  rw[lC,List.map_cons,List.sum_cons,Nat.mul_add];omega
omit hP hC in
theorem uF{f:List Nat→Nat}{c:Nat}:∀ (L:List (List Nat)),(∀ w,w∈L→f w≤c)→(L.map f).sum≤c*L.length
 | [],_=>by simp
 | w :: r,h=>by
  have h1:=h w List.mem_cons_self;have h2:=uF r fun w hw=>h w (List.mem_cons_of_mem _ hw)
  rw[lC,List.map_cons,List.sum_cons,Nat.mul_add];omega
omit hP hC in
theorem pX{f g:List Nat→Nat}:∀ (L:List (List Nat)),(L.map fun w=>f w+g w).sum=(L.map f).sum+(L.map g).sum
 | []=>rfl
 | w :: r=>by
  rw[List.map_cons,List.map_cons,List.map_cons,List.sum_cons,List.sum_cons,List.sum_cons,pX r];omega
omit hP hC in
theorem uA:I8 T N=(J8 T N).length:=by
 unfold I8 J8;rw[Ze]
theorem Z1b:2*I8 T N≤S.length+(S.filter (Me T)).length:=by
 have h1:=vK (f:=fun w=>(w.filter (M1 S)).length+(w.filter (M1 (S.filter (Me T)))).length) (c:=2) (J8 T N) fun w hw=>y8 hP hC hw
 rw[pX,Wx hP,Wx hP]at h1;have h2:=uP (N:=N) S;have h3:=uP (N:=N) (S.filter (Me T));rw[uA];omega
theorem Z52(BT:∀ s,s∈S→T (S9 s)=DP s):I8 T N=S.length:=by
 have hf:S.filter (Me T)=S:=List.filter_eq_self.2 fun s hs=>by unfold Me; grind
 have h1:=Z1b hP hC;rw[hf]at h1;have closed:∀ s,s∈S → ∀ x,x∈s→T x∈s:=fun s hs x hx=>by
  have hlt:=hP.lt _ (LF hC hs hx);obtain⟨s',g1,g2⟩:=List.mem_flatten.1 ((hC.Bo _).1 hlt);rcases bD (hC.seg s' g1) (uZ hC.nd g1) _ g2 with e|⟨z,e1,e2,e3⟩
  ·rw[← BT s' g1]at e;have:=hP.inj _ _ (LF hC hs hx) (LF hC g1 (Lz (LK hC g1))) e;rw[VL hC.nd hs g1 hx (this ▸ Lz (LK hC g1))];exact g2
  ·have:=hP.inj _ _ (LF hC g1 e1) (LF hC hs hx) e2;subst this;rw[VL hC.nd hs g1 hx e1];exact g2
 have closed':∀ s,s∈S → ∀ x,x∈s → ∀ j,it T j x∈s:=fun s hs x hx j=>by
  induction j with
  | zero=>exact hx
  | succ j ih=>exact closed s hs _ ih
 have h2:=uF (f:=fun w=>(w.filter (M1 S)).length) (c:=1) (J8 T N) fun w hw=>by
  obtain⟨Dy,hre⟩:=Z67 hP w hw;rcases hl:w.filter (M1 S)with _|⟨a,_|⟨b,r⟩⟩
  ·simp
  ·simp
  ·exfalso;have hnd2:=Dy.filter (M1 S);rw[hl]at hnd2;have ha:a∈w.filter (M1 S):=by rw[hl]; simp
   have hb:b∈w.filter (M1 S):=by rw[hl]; simp
   obtain⟨a1,a2⟩:=List.mem_filter.1 ha;obtain⟨b1,b2⟩:=List.mem_filter.1 hb;unfold M1 at a2 b2;obtain⟨s,c1,c2⟩:=mM.1 (of_decide_eq_true a2);obtain⟨s',d1,d2⟩:=mM.1 (of_decide_eq_true b2);obtain⟨j,hj⟩:=hre a b a1 b1;have hm:=closed' s c1 a (c2 ▸ RA (LK hC c1)) j;rw[hj]at hm;have:=VL hC.nd c1 d1 hm (d2 ▸ RA (LK hC d1))
   simp_all
 have h3:S.length≤((List.range N).filter (M1 S)).length:=by
  have Dy:(S.map DP).Nodup:=by
   have hS:=hC.nd;unfold List.Nodup at hS;rw[List.pairwise_flatten]at hS;unfold List.Nodup;rw[List.pairwise_map];refine List.Pairwise.imp_of_mem (fun {a b} ha hb h e=>?_) hS.2
   exact h _ (RA (LK hC ha)) _ (RA (LK hC hb)) e
  have:=List.Nodup.length_le_of_subset (l₁:=S.map DP) (l₂:=(List.range N).filter (M1 S)) Dy fun y hy=>by
   obtain⟨s,hs,rfl⟩:=mM.1 hy;exact List.mem_filter.2 ⟨mR.2 (LF hC hs (RA (LK hC hs))),by unfold M1; grind⟩
  simpa using this
 rw[Wx hP]at h2;rw[uA]at h1 ⊢;omega
end
end Go.Ac
end
section
namespace Go.Ac
open Go.Plain
def CL(d:Nat):Nat:=if d % 2=0 then d+1 else d - 1
def BC(ls:List Lt)(d:Nat):Nat:=X7 ls (Z2 ls) d
def Mm(ls:List Lt)(d:Nat):Lt:=at' ls (T1 ls.length d)
def qe(ls:List Lt)(done:List Int)(d:Nat):Int:=if (Mm ls d).k=2∧(Mm ls d).i∉done then (Mm ls d).i else 0
def okF(ls:List Lt)(id:Int)(front:List Nat)(j:Nat):Bool:=
 decide ((Mm ls (front.getD j 0)).k=2)&&decide ((Mm ls (front.getD j 0)).i=id)&&decide (BC ls (front.getD j 0)=CL (front.getD (j - 1) 0))
def Uv(ls:List Lt)(id:Int)(front:List Nat)(j:Nat):Nat:=
 if h:j<front.length∧okF ls id front j=true then 1+Uv ls id front (j+1)else 0
termination_by front.length - j
decreasing_by omega
def runN(c:Nat)(ls:List Lt)(done:List Int)(front:List Nat)(i:Nat):Nat:=
 if qe ls done (front.getD i 0)=0 then 0 else min c (1+Uv ls (qe ls done (front.getD i 0)) front (i+1))
def DX(run:Nat→Nat):Nat→Nat×Nat
 | 0=>(0,0)
 | k+1=>if (DX run k).2<run k then (k,run k)else DX run k
def Uw(p:Nat→Bool):Nat→Nat→Nat
 | 0,j=>j
 | k+1,j=>if p j then j else Uw p k (j+1)
def Z11(front:List Nat)(i:Nat):Bool:=decide (front.getD i 0=CL (front.getD (i+1) 0))
def Md(front:List Nat):Nat:=Uw (Z11 front) (front.length - 1) 0
def UW(ls:List Lt):Nat→Nat→List Nat
 | _,0=>[]
 | x,k+1=>BC ls x :: UW ls (CL (BC ls x)) k
abbrev Rw:=Nat×Nat×Nat×Bool
def sdrN(c:Nat)(ls:List Lt)(front:List Nat)(done:List Int):Option (Rw×List Nat×List Int):=
 if Md front<front.length - 1 then some ((1,Md front,0,false),front.take (Md front)++front.drop (Md front+2),done)
 else if (DX (runN c ls done front) front.length).2=0 then none
 else some ((2,(DX (runN c ls done front) front.length).1,(DX (runN c ls done front) front.length).2,(Mm ls (front.getD (DX (runN c ls done front) front.length).1 0)).o),
  front.take (DX (runN c ls done front) front.length).1++UW ls (front.getD (DX (runN c ls done front) front.length).1 0) (4 - (DX (runN c ls done front) front.length).2) ++
   front.drop ((DX (runN c ls done front) front.length).1+(DX (runN c ls done front) front.length).2),
  done++[(Mm ls (front.getD (DX (runN c ls done front) front.length).1 0)).i])
end Go.Ac
end
