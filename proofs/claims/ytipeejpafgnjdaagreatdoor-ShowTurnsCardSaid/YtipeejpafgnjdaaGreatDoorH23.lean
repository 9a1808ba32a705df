/- Part 23 of the proof: Tb, AeRm. -/
import Derived.Test.YtipeejpafgnjdaaGreatDoorH13
import Derived.Test.YtipeejpafgnjdaaGreatDoorH22
import Derived.ProofKit
import Derived.Carry
import Derived.Deep.Slices
set_option linter.all false
section
namespace Go.Known
open Go Go.AE Go.Proofs
open Go.Plain
open Go.ChangeShapes Go.WideShapes Go.RowKit Go.Deep
variable {H:Type} {enc:TypeId×Value→H} {w:World} {base:Nat} {spare:Nat→Bool} {held:Bool}
set_option maxRecDepth 100000 in
theorem Zv3{n:Nat}{cs:List Value}{x:DataW H×List MemPlace}(h:DataW.trod enc Tryz.prog w base spare held n 88 cs=some x) :
 ∃ l:Lt,cs=[.int .i64 l.k,.int .i64 l.g,.int .i64 l.r,.int .i64 l.i,.int .i64 l.s,.bool l.o]:=by
 obtain⟨xs,m,_,_,hl,hlen,hf⟩:=DataW.trod_struct Tryz.underlying88 h;have hc:Tryz.prog.cellsOf 88=6:=by kernel_rfl
 have h3:Tryz.prog.cellsOf 3=1:=by kernel_rfl
 have h4:Tryz.prog.cellsOf 4=1:=by kernel_rfl
 have hk:Tryz.prog.cellsOf 86=1:=by kernel_rfl
 rw[hc]at hl
 match cs,hl with
 | [a0,a1,a2,a3,a4,a5],_=>
  match xs,hlen with
  | [x0,x1,x2,x3,x4,x5],_=>
   have e0:DataW.trod enc Tryz.prog w base spare held m 86 (([a0,a1,a2,a3,a4,a5].drop 0).take (Tryz.prog.cellsOf 86))=some x0:=hf 0 _ rfl;rw[hk]at e0;have e1:DataW.trod enc Tryz.prog w base spare held m 3 (([a0,a1,a2,a3,a4,a5].drop 1).take (Tryz.prog.cellsOf 3))=some x1:=hf 1 _ rfl;rw[h3]at e1;have e2:DataW.trod enc Tryz.prog w base spare held m 3 (([a0,a1,a2,a3,a4,a5].drop 2).take (Tryz.prog.cellsOf 3))=some x2:=hf 2 _ rfl;rw[h3]at e2
   have e3:DataW.trod enc Tryz.prog w base spare held m 3 (([a0,a1,a2,a3,a4,a5].drop 3).take (Tryz.prog.cellsOf 3))=some x3:=hf 3 _ rfl;rw[h3]at e3;have e4:DataW.trod enc Tryz.prog w base spare held m 3 (([a0,a1,a2,a3,a4,a5].drop 4).take (Tryz.prog.cellsOf 3))=some x4:=hf 4 _ rfl;rw[h3]at e4;have e5:DataW.trod enc Tryz.prog w base spare held m 4 (([a0,a1,a2,a3,a4,a5].drop 5).take (Tryz.prog.cellsOf 4))=some x5:=hf 5 _ rfl;rw[h4]at e5
   obtain⟨n0,q0,_,_⟩:=DataW.trod_int (t:=86) (k:=.i64) Tryz.underlying86 e0;obtain⟨n1,q1,_,_⟩:=DataW.trod_int (t:=3) (k:=.i64) Tryz.underlying3 e1;obtain⟨n2,q2,_,_⟩:=DataW.trod_int (t:=3) (k:=.i64) Tryz.underlying3 e2;obtain⟨n3,q3,_,_⟩:=DataW.trod_int (t:=3) (k:=.i64) Tryz.underlying3 e3;obtain⟨n4,q4,_,_⟩:=DataW.trod_int (t:=3) (k:=.i64) Tryz.underlying3 e4;obtain⟨b5,q5,_⟩:=DataW.trod_bool (t:=4) Tryz.underlying4 e5
   have r0:a0=.int .i64 n0:=by simpa using q0
   have r1:a1=.int .i64 n1:=by simpa using q1
   have r2:a2=.int .i64 n2:=by simpa using q2
   have r3:a3=.int .i64 n3:=by simpa using q3
   have r4:a4=.int .i64 n4:=by simpa using q4
   have r5:a5=.bool b5:=by simpa using q5
   subst r0 r1 r2 r3 r4 r5;exact⟨⟨n0,n1,n2,n3,n4,b5⟩,rfl⟩
def rowV(l:Lt):List Value:=[.int .i64 l.k,.int .i64 l.g,.int .i64 l.r,.int .i64 l.i,.int .i64 l.s,.bool l.o]
def allP(w:World):Pers:=fun B=>match w.heap[B]? with
 | some (.cells c _ _)=>some c
 | _=>none
theorem Ya1{w:World}{B:Nat}{c:Array Value}(h:allP w B=some c):∃ e fz,w.heap[B]? = some (.cells c e fz):=by
 unfold allP at h;split at h
 ·rename_i c' e fz hh;cases h;exact⟨e,fz,hh⟩
 ·cases h
theorem Zvs(Φ:Pers)(ρ:Rho)(l:Lt)(j:Nat)(x:AVal)(h:(rowL l)[j]? = some x):∃ v,(rowV l)[j]? = some v∧v.oneCell'=true∧R Φ ρ x v:=by
 match j,h with
 | 0,h=>cases h; exact⟨_,rfl,rfl,.int _ _⟩
 | 1,h=>cases h; exact⟨_,rfl,rfl,.int _ _⟩
 | 2,h=>cases h; exact⟨_,rfl,rfl,.int _ _⟩
 | 3,h=>cases h; exact⟨_,rfl,rfl,.int _ _⟩
 | 4,h=>cases h; exact⟨_,rfl,rfl,.int _ _⟩
 | 5,h=>cases h; exact⟨_,rfl,rfl,.bool _⟩
 | j+6,h=>cases h
theorem Zkq(a:Addr)(n:Nat):(a.add n).block=a.block:=by unfold Addr.add; split<;>rfl
theorem Zsp(a:Addr)(n:Nat):(a.add n).off=a.off+n:=by
 unfold Addr.add;split
 ·rename_i h; rw[h]; rfl
 ·rfl
theorem Zwm{w:World}{base:Nat}{a:Addr}{n:Nat}{cs:List Value}(h:w.cells? base a n=some cs):∀ j,j<n→w.cell? (a.add j)=cs[j]? ∧ cs.length=n:=by
 unfold World.cells? at h;split at h
 ·intro j hj;exact⟨mapM_some_get h j j (by simp[hj]),by simpa using mapM_some_length h⟩
 ·cases h
theorem Zw0{w:World}{a:Addr}{v:Value}(h:w.cell? a=some v):∃ c e fz,w.heap[a.block]? = some (.cells c e fz)∧c[a.off]? = some v:=by
 unfold World.cell? at h;split at h
 ·rename_i c e fz hh;split at h
  ·cases h
  ·exact⟨c,e,fz,hh,h⟩
 ·cases h
theorem Zu3{w:World}{a:Addr}{v:Value}(h:w.cell? a=some v):a.spot=none:=by
 unfold World.cell? at h;split at h
 ·split at h
  ·cases h
  ·rename_i hs;cases ha:a.spot with
   | none=>rfl
   | some _=>rw[ha]at hs; exact absurd rfl hs
 ·cases h
theorem Z9a{n:Nat}{v:Value}{x:DataW H×List MemPlace}(h:DataW.trod enc Tryz.prog w 0 (fun _=>true) held n 22 [v]=some x):∃ ls:List Lt,∀ ρ,R (allP w) ρ (.imm (ls.map rowL)) v:=by
 have hc6:Tryz.prog.cellsOf 88=6:=by kernel_rfl
 rcases open_slice Tryz.underlying22 h with⟨h1,_⟩|⟨a,len,cap,m,n',D,Pl,h1,_,hlc,_,hm,_,hel⟩
 ·cases h1;exact⟨[],fun ρ=>.imm0 _ _ fun hp=>absurd hp (by omega)⟩
 ·cases h1;simp only[if_true]at hm;subst hm;rw[hc6]at hel;have hL:∀ i,∃ l:Lt,i<len→w.cells? 0 (a.add (i*6)) 6=some (rowV l):=fun i=>by
   by_cases hi:i<len
   ·obtain⟨cs',g1,g2⟩:=hel i (by omega)
    obtain⟨l,rfl⟩:=Zv3 g2;exact⟨l,fun _=>g1⟩
   ·exact⟨default,fun h=>absurd h hi⟩
  obtain⟨L,hL⟩:=Classical.axiomOfChoice hL;rcases Nat.eq_zero_or_pos len with h0|h0
  ·subst h0;refine⟨[],fun ρ=>.imm0 _ _ fun hp=>?_⟩
   obtain⟨cs',g1,g2⟩:=hel 0 (by omega)
   obtain⟨l,rfl⟩:=Zv3 g2;have hh:=(Zwm g1 0 (by omega)).1
   have e1:(a.add (0*6)).add 0=a:=by simp[Addr.add]
   rw[e1]at hh;have hsp:=Zu3 (v:=.int .i64 l.k) hh;obtain⟨ab,ao,asp⟩:=a;simp only at hsp;subst hsp;exact⟨_,_,rfl⟩
  have hcell:∀ i j,i<len→j<6→w.cell? ((a.add (i*6)).add j)=(rowV (L i))[j]?:=fun i j hi hj=>(Zwm (hL i hi) j hj).1
  have hsp:a.spot=none:=by
   have:=hcell 0 0 h0 (by omega)
   have e1:(a.add (0*6)).add 0=a:=by simp[Addr.add]
   rw[e1]at this;exact Zu3 this
  have hblk:∃ c e fz,w.heap[a.block]? = some (.cells c e fz):=by
   have:=hcell 0 0 h0 (by omega)
   obtain⟨c,e,fz,g1,_⟩:=Zw0 (v:=.int .i64 (L 0).k) this;rw[Zkq,Zkq]at g1;exact⟨c,e,fz,g1⟩
  obtain⟨c,e,fz,hcc⟩:=hblk;have hat:∀ i j v,i<len→j<6→(rowV (L i))[j]? = some v→c[a.off+i*6+j]? = some v:=fun i j v hi hj hv=>by
   have h2:=hcell i j hi hj;rw[hv]at h2;obtain⟨c',e',fz',g1,g2⟩:=Zw0 h2;rw[Zkq,Zkq,hcc]at g1;cases g1;rw[Zsp,Zsp]at g2;exact g2
  have hget:∀ (i:Nat) (row:List AVal),(((List.range len).map L).map rowL)[i]? = some row→i<len∧row=rowL (L i):=fun i row hi=>by
   rw[List.map_map,List.getElem?_map]at hi;by_cases hil:i<len
   ·rw[List.getElem?_range hil]at hi;cases hi;exact⟨hil,rfl⟩
   ·rw[List.getElem?_eq_none (by simpa using hil)]at hi
    cases hi
  have hj6:∀ (l:Lt) (j:Nat) (x:AVal),(rowL l)[j]? = some x→j<6:=fun l j x hx=>(gS.1 hx).1
  refine⟨(List.range len).map L,fun ρ=>?_⟩
  obtain⟨ab,ao,asp⟩:=a;simp only at hsp hcc hat;subst hsp;have hlen:(((List.range len).map L).map rowL).length=len:=by simp
  have:=R.imm (Φ:=allP w) (ρ:=ρ) (((List.range len).map L).map rowL) ab ao 6 _ c (fun i j=>((rowV (L i))[j]?).getD (.bool false)) (fun e=>by rw[e]at hlen; simp at hlen; omega) (by rw[hlen]; exact hlc)
   (by unfold allP; rw[hcc]) (fun i row hi=>by obtain⟨_,rfl⟩:=hget i row hi; rfl)
   (fun i row j x hi hj=>by
     obtain⟨hil,rfl⟩:=hget i row hi;obtain⟨v,g1,g2,_⟩:=Zvs (allP w) ρ (L i) j x hj;rw[g1];exact⟨hat i j v hil (hj6 _ j x hj) g1,g2⟩)
   (fun i row j x hi hj=>by
     obtain⟨hil,rfl⟩:=hget i row hi;obtain⟨v,g1,_,g3⟩:=Zvs (allP w) ρ (L i) j x hj;rw[g1];exact g3)
  rw[hlen]at this;exact this
set_option maxRecDepth 100000 in
theorem Z9n{v:Value}{d:DataW H}{p:List MemPlace}{b:Nat}(hok:Value.okWide Tryz.prog w .any b 24 v)(h:DataW.Trod enc Tryz.prog w 0 (fun _=>true) held 24 v d p):∃ (f:Int) (ls:List Lt),∀ ρ,R (allP w) ρ (cV f ls) v:=by
 unfold Value.okWide at hok;rw[Tryz.underlying24]at hok;obtain⟨cs,rfl,hsz,_⟩:=hok;obtain⟨fuel,h⟩:=h;have hc:Tryz.prog.cellsOf 24=2:=by kernel_rfl
 have h3:Tryz.prog.cellsOf 3=1:=by kernel_rfl
 have h22:Tryz.prog.cellsOf 22=1:=by kernel_rfl
 rw[hc]at hsz;obtain⟨y0,y1,n,_,hl,e0,e1⟩:=trod_struct2 Tryz.underlying24 h;obtain⟨cl⟩:=cs
 match cl,hsz with
 | [a0,a1],_=>
  simp only[h3,h22,Value.cells]at e0 e1;obtain⟨k,q0,_,_⟩:=DataW.trod_int (t:=3) (k:=.i64) Tryz.underlying3 e0;have q0':a0=.int .i64 k:=by simpa using q0
  subst q0';obtain⟨ls,hls⟩:=Z9a (v:=a1) e1;refine⟨k,ls,fun ρ=>.agg _ _ rfl fun i x v hx hv=>?_⟩
  match i,hx,hv with
  | 0,hx,hv=>cases hx; cases hv; exact .int _ _
  | 1,hx,hv=>cases hx; cases hv; exact hls ρ
  | i+2,hx,hv=>simp at hx
end Go.Known
end
section
namespace Go.AE
open Go.RowKit
def sxD(b N:Nat)(id:Nat)(f:AOpd→AVal)(get:Nat→Option ABlk):AOp→Option (AVal×List (Nat×Option ABlk))
 | .capSl x=>match f x with
  | .sl b' off _=>if b'=b∧off≤N then some (.int .i64 ((N - off:Nat):Int),[])else none
  | _=>none
 | .bin .gtr e x y=>match f y with
  | .atLeast _=>none
  | _=>stepD id f get (.bin .gtr e x y)
 | .append k bytes z s x=>match f s with
  | .sl b' off len=>if b'=b then match P9 get k (f x),R2 get k (.sl b' off len)with
   | some xs,some olds=>if N<off+len+xs.length then (if len+xs.length≤X4∧bytes≤X4∧olds.length=len then some (.sl id 0 (len+xs.length),[(id,some (.cells k (olds++xs)))])else none)else stepD id f get (.append k bytes z s x)
   | _,_=>none
   else stepD id f get (.append k bytes z s x)
  | _=>stepD id f get (.append k bytes z s x)
 | .appendZ k bytes z s x=>match f s,f x with
  | .sl b' off len,.int _ n=>if b'=b∧0≤n then match R2 get k (.sl b' off len)with
   | some olds=>if N<off+len+n.toNat∧len+n.toNat≤X4∧bytes≤X4∧olds.length=len then some (.sl id 0 (len+n.toNat),[(id,some (.cells k (olds++List.replicate n.toNat z)))])else none
   | none=>none
   else none
  | _,_=>none
 | op=>stepD id f get op
theorem Yas{b N id:Nat}{t:List AVal}{m:Mem}{op:AOp}{v:AVal}{d:List (Nat×Option ABlk)}(h:sxD b N id (ev t) m.get op=some (v,d)):stX b N true id t m op=some (v,m.apply d):=by
 unfold sxD at h;split at h
 ·rename_i x;simp only[stX];split at h<;>first|(cases h; done)|skip
  rename_i b' off len hx;split at h<;>first|(cases h; done)|skip
  rename_i hc;simp only[oI,pI2]at h;obtain⟨rfl,rfl⟩:=h;rw[hx];simp only;rw[if_pos hc];rfl
 ·rename_i e x y;have hs:¬ ∃ k,ev t y=.atLeast k:=by
   rintro⟨k,hk⟩;rw[hk]at h;cases h
  have h':stepD id (ev t) m.get (.bin .gtr e x y)=some (v,d):=by
   split at h<;>first|(cases h; done)|exact h
  have:=Zam h';simp only[stX];split
  ·rename_i k hk;exact absurd ⟨k,hk⟩ hs
  ·exact this
 ·rename_i k bytes z s x;simp only[stX];cases hs:ev t s with
  | sl b' off len=>
   rw[hs]at h;simp only at h ⊢;split at h
   ·rename_i hb;rw[if_pos hb];have e1:O4 m k (ev t x)=P9 m.get k (ev t x):=rfl;have e2:L3 m k (.sl b' off len)=R2 m.get k (.sl b' off len):=rfl;rw[e1,e2];cases hx:P9 m.get k (ev t x)with
    | none=>rw[hx]at h; cases h
    | some xs=>
     cases ho:R2 m.get k (.sl b' off len)with
     | none=>rw[hx,ho]at h; cases h
     | some olds=>
      rw[hx,ho]at h;simp only at h ⊢;split at h
      ·rename_i hN;rw[if_pos hN];split at h
       ·rename_i hc;rw[if_pos hc];simp only[oI,pI2]at h;obtain⟨rfl,rfl⟩:=h;rfl
       ·cases h
      ·rename_i hN;rw[if_neg hN];exact Zam h
   ·rename_i hb;rw[if_neg hb];exact Zam h
  | _=>
   rw[hs]at h;exact Zam h
 ·rename_i k bytes z s x;simp only[stX];split at h<;>first|(cases h; done)|skip
  rename_i b' off len kx nn hs hx;split at h<;>first|(cases h; done)|skip
  rename_i hc;rw[hs,hx];simp only;rw[if_pos hc];have hrows:L3 m k (.sl b' off len)=R2 m.get k (.sl b' off len):=rfl;rw[hrows];cases hr:R2 m.get k (.sl b' off len)with
  | none=>rw[hr]at h; cases h
  | some olds=>
   rw[hr]at h;simp only at h ⊢;split at h<;>first|(cases h; done)|skip
   rename_i hc2;rw[if_pos hc2];simp only[oI,pI2]at h;obtain⟨rfl,rfl⟩:=h;rfl
 ·rename_i op h1 h2 h3 h4;have:=Zam h;unfold stX;split
  ·exact absurd rfl (h1 _)
  ·exact absurd rfl (h2 _ _ _)
  ·exact absurd rfl (h3 _ _ _ _ _)
  ·exact absurd rfl (h4 _ _ _ _ _)
  ·exact this
def isC:Option ABlk→Prop
 | some (.cells k _)=>0<k
 | _=>False
def ovOk(m:SMem):List AVal→Prop
 | [.sl b1 _ l1,.sl b2 _ l2]=>b1≠b2∧0<l1∧0<l2∧isC (m.get b1)∧isC (m.get b2)
 | _=>False
section
variable {P:Program} {b N G n base:Nat}
def rops(P:Program)(b N G n base:Nat):List AOper→Nat→(Env→SMem→Prop)→Env→SMem→Prop
 | [],_,K,e,m=>K e m
 | o :: r,i,K,e,m=>gdK (V2 n e o.guard)
  (match o.op with
  | .call f xs=>clK (X9 n e f xs) fun g args=>g=G∧ovOk m args∧rops P b N G n base r (i+1) K (Y4 e o.dst (.bool false)) m
  | op=>stK (sxD b N (base+i) (evE n e) m.get op) fun v d=>rops P b N G n base r (i+1) K (Y4 e o.dst v) (m.app d))
  (rops P b N G n base r (i+1) K (Y4 e o.dst aundef) m)
theorem Zsc{e:Env}{f:AOpd}{xs:List AOpd}{g:FuncId}{args:List AVal}(h:X9 n e f xs=some (g,args)):Zaw (toE n e) f xs=some (.func g,args):=by
 unfold X9 at h;unfold Zaw;rw[L0];split at h<;>first|(cases h; done)|skip
 rename_i g' first cap hf;simp only[oI,pI2]at h;obtain⟨rfl,rfl⟩:=h;rw[hf]
theorem Znq{K:Env→SMem→Prop}{K':ASt→Prop}(hk:∀ e m,K e m→K' ⟨toE n e,m.mem⟩):∀ (ops:List AOper) (i:Nat) (e:Env) (m:SMem),rops P b N G n base ops i K e m→O7 (stX b N true) (cwX P G) base ops i K' (toE n e) m.mem
 | [],_,_,_,h=>hk _ _ h
 | o :: r,i,e,m,h=>by
  simp only[rops]at h;simp only[O7,Zgs];cases hw:V2 n e o.guard with
  | none=>rw[hw]at h; exact h
  | some q=>
   rw[hw]at h;cases q with
   | false=>
    simp only[K4];exact Znq hk r _ _ _ h
   | true=>
    simp only[gdK]at h;simp only;have other:∀ op,stK (sxD b N (base+i) (evE n e) m.get op) (fun v d=>rops P b N G n base r (i+1) K (Y4 e o.dst v) (m.app d)) →
     (match stX b N true (base+i) (toE n e) m.mem op with|some (v,m')=>O7 (stX b N true) (cwX P G) base r (i+1) K' (put (toE n e) o.dst v) m'|none=>False):=by
     intro op hh;cases hs:sxD b N (base+i) (evE n e) m.get op with
     | none=>rw[hs]at hh; exact hh.elim
     | some vd=>
      obtain⟨v,d⟩:=vd;rw[hs]at hh;have:=Yas (t:=toE n e) (m:=m.mem) (op:=op) (v:=v) (d:=d) (b:=b) (N:=N) (id:=base+i) (by rw[L0]; exact hs)
      rw[this];simp only[K4];rw[← SMem.app_mem];exact Znq hk r _ _ _ hh
    cases hop:o.op with
    | call f xs=>
     simp only[hop]at h;simp only;cases hc:X9 n e f xs with
     | none=>rw[hc]at h; exact h.elim
     | some ga=>
      obtain⟨g,args⟩:=ga;rw[hc]at h;obtain⟨hg,ho,hh⟩:=h;rw[Zsc hc,hg];simp only;refine .inr ⟨rfl,?_⟩;unfold ovOk at ho;split at ho<;>first|exact ho.elim|skip
      rename_i b1 o1 l1 b2 o2 l2;obtain⟨q1,q2,q3,q4,q5⟩:=ho;unfold isC at q4 q5;split at q4<;>first|exact q4.elim|skip
      rename_i k1 e1 g1;split at q5<;>first|exact q5.elim|skip
      rename_i k2 e2 g2;refine⟨b1,o1,l1,b2,o2,l2,k1,e1,k2,e2,rfl,q1,q2,q3,q5,g1,g2,?_⟩;simp only[K4];exact Znq hk r _ _ _ hh
    | _=>rw[hop]at h; exact other _ h
def wpX(P:Program)(b N G n:Nat):ACode→(Exit→Env→SMem→Prop)→Env→SMem→Prop
 | .skip,Q,e,m=>Q .normal e m
 | .region false ops,Q,e,m=>rops P b N G n m.next ops 0 (Q .normal) e (m.at (m.next+ops.length))
 | .region true ops,Q,e,m=>ops.all J3=true∧V6 P false n m.next ops 0 (Q .normal) e (m.at (m.next+ops.length))
 | .seq x y,Q,e,m=>wpX P b N G n x (P2 (wpX P b N G n y Q) Q) e m
 | .cond c x y,Q,e,m=>Zas (evE n e c) (wpX P b N G n x Q e m) (wpX P b N G n y Q e m)
 | .ret,Q,e,m=>Q .ret e m
 | _,_,_,_=>False
theorem Z19{c:ACode}:∀ {Q:Exit→Env→SMem→Prop} {R:Exit→ASt→Prop} {e:Env} {m:SMem},wpX P b N G n c Q e m→(∀ x e m,Q x e m→R x ⟨toE n e,m.mem⟩)→U2 (wrG P true (stX b N true) (cwX P G)) true c R ⟨toE n e,m.mem⟩:=by
 induction c with
 | skip=>exact fun h hq=>hq _ _ _ h
 | region draw ops=>
  intro Q R e m h hq;cases draw with
  | false=>exact Znq (hq .normal) ops 0 e _ h
  | true=>
   refine⟨rfl,?_⟩;have h1:=Zjq ops [] e _ (Zhc ops [] e _ (Zz3 h.1) (Zlg ops 0 _ _ h.1 h.2));exact Zfi (P:=P) (c:=.region true ops) (Q:=fun _ σ=>∃ (e1:Env) (m1:SMem),σ=⟨toE n e1,m1.mem⟩∧Q .normal e1 m1) (Q':=fun _ σ=>R .normal σ) (σ:=⟨toE n e,m.mem⟩) h1 fun x σ hx=>by
    obtain⟨e1,m1,rfl,hh⟩:=hx;exact hq _ _ _ hh
 | seq x y ihx ihy=>
  intro Q R e m h hq;refine ihx h fun x e m hx=>?_
  cases x<;>first|exact ihy hx hq|exact hq _ _ _ hx
 | cond c x y ihx ihy=>
  intro Q R e m h hq;simp only[wpX]at h;simp only[U2,L0];generalize evE n e c=v at h;cases v<;>first|exact h.elim|skip
  rename_i q;cases q
  ·exact ihy h hq
  ·exact ihx h hq
 | ret=>exact fun h hq=>hq _ _ _ h
 | _=>intro Q R e m h; exact h.elim
def padS(m:SMem)(b k:Nat)(els:List (List AVal))(N:Nat):SMem:=m.app [(b,some (.cells k (els++List.replicate (N - els.length) (List.replicate k .bot))))]
theorem BR.pref{Φ:Pers}{ρ:Rho}{k:Nat}{els rest:List (List AVal)}{l:Loc}{o:Obj}(h:BR Φ ρ (.cells k (els++rest)) l o):BR Φ ρ (.cells k els) l o:=by
 cases h with
 | cells k els' l c e hk hn hll hr h1=>
  have hg:∀ (i:Nat) (row:List AVal),els[i]? = some row→(els++rest)[i]? = some row:=fun i row hi=>by
   rw[List.getElem?_append_left (gS.1 hi).1]; exact hi
  refine .cells k els l c e hk hn (by simp at hll; omega) ⟨fun i row hi=>hr.1 i row (hg i row hi),fun i row j x hi hj=>hr.2 i row j x (hg i row hi) hj⟩ h1
def Trim(mt m:SMem):Prop:=m.next=mt.next ∧ ∀ b x,mt.get b=some x→m.get b=some x ∨ ∃ k els rest,x=.cells k els∧m.get b=some (.cells k (els++rest))
theorem Trim.rel{mt m:SMem}(ht:Trim mt m){W:Base}{Φ:Pers}{ρ:Rho}{w:World}(h:Rel W Φ ρ m.mem w):Rel W Φ ρ mt.mem w:=by
 refine⟨h.base,h.pers,fun b x hx=>?_,fun b b' x x' l l' h1 h2 h3 h4 h5=>?_,fun b l hb=>?_,h.newp⟩
 ·rcases ht.2 b x hx with g|⟨k,els,rest,rfl,g⟩
  ·exact h.live b x g
  ·obtain⟨l,o,g1,g2,g3,g4,g5⟩:=h.live b _ g;exact⟨l,o,g1,g2,g3,g4,g5.pref⟩
 ·have hex:∀ b x,mt.get b=some x → ∃ y,m.get b=some y:=fun b x hx=>by
   rcases ht.2 b x hx with g|⟨_,_,_,_,g⟩<;>exact ⟨_,g⟩
  obtain⟨y,hy⟩:=hex _ _ h1;obtain⟨y',hy'⟩:=hex _ _ h2;exact h.inj b b' y y' l l' hy hy' h3 h4 h5
 ·have:=h.fresh b l hb;show b<mt.next;rw[← ht.1];exact this
def EndT(n0:Nat)(K:AVal→SMem→Prop)(v:AVal)(m:SMem):Prop:=∃ mt,Trim mt m∧S4 n0 K v mt
theorem Trim.refl(m:SMem):Trim m m:=⟨rfl,fun _ _ h=>.inl h⟩
theorem Z73(hm:P.follows .mixedOrders=true){f:FuncId}{fn:Func}{af:AFn}{args:List AVal}{m:SMem}{K:AVal→SMem→Prop}{k:Nat}{els:List (List AVal)}(hG:Zeq P G)(hf:P.funcs[f]? = some fn)(hc:cFn P fn=some af)(hl:Nat.ble args.length af.ntmps=true)
 (hb:m.get b=some (.cells k els))
 (h:∀ N,els.length≤N→wpX P b N G af.ntmps af.body (N9 af.ntmps af.results (EndT m.next K)) (W9 0 args []) (padS m b k els N)):Ctr P f args m K:=by
 obtain⟨c,hbd,hbody,hrs,hnt,hname⟩:=Zjt hc;have hl':args.length≤af.ntmps:=Nat.le_of_ble_eq_true hl;refine⟨⟨fn,hf,hname,by rw[hbd]; rfl⟩,fun W Φ ρ vs w hr ha hav=>?_⟩
 have ht0:=Zhh (k:=fn.ntmps) ha;have ht1:RL Φ ρ (toE af.ntmps (W9 0 args [])) (vs++Array.replicate (fn.ntmps - vs.size) undef):=by
  refine ht0.sub (by rw[M7]; simp; omega) fun i x hx=>?_
  have hi:i<af.ntmps:=by
   have:=(gS.1 hx).1;rwa[M7]at this
  rw[I8 hi,Zg6]at hx;injection hx with hx
  by_cases h2:0≤i∧i<0+args.length
  ·rw[if_pos h2]at hx;rw[List.getElem?_append,if_pos (by omega)]
   refine .inr ?_;rw[← hx,Nat.sub_zero,List.getD,gE (by omega)]
   rfl
  ·rw[if_neg h2]at hx;exact .inl hx.symm
 obtain⟨l,ob,g1,g2,g3,g4,g5⟩:=hr.live b _ hb;have hlow:l.sh+els.length≤l.n:=by
  cases g5 with
  | cells _ _ _ c e q1 q2 q3 q4 q5=>exact q3
 obtain⟨N,hN⟩:∃ N,l.n=l.sh+N:=⟨l.n - l.sh,by omega⟩
 have hr':Rel W Φ ρ (padS m b k els N).mem w:=by
  have:=Zze (N:=N) hr hb g1 (by omega) (by omega)
  have e:(padS m b k els N).mem=m.mem.set b (.cells k (els++List.replicate (N - els.length) (List.replicate k .bot))):=by
   unfold padS;rw[SMem.app_mem];rfl
  rw[e];exact this
 have hX:=Z19 (h N (by omega)) (R:=fun x σ=>match x with
  | .normal=>∃ e m',σ=⟨toE af.ntmps e,SMem.mem m'⟩∧I7 (EndT m.next K) m' (S1 af.ntmps e m' af.results)
  | .ret=>∃ e m',σ=⟨toE af.ntmps e,SMem.mem m'⟩∧I7 (EndT m.next K) m' (S1 af.ntmps e m' af.results)
  | _=>False) fun x e m' hx=>by
   cases x<;>first|exact hx.elim|exact⟨e,m',rfl,hx⟩
 rw[hbody]at hX;have hs:=Zqk (n:=0) hm HEx.mono (Zy6 Open.wide b N true) (Ztf hG) c _ _ hX W Φ ρ ⟨l,g1,hN⟩ { tmps:=vs++Array.replicate (fn.ntmps - vs.size) undef,defers:=[] } w hr' ht1 rfl;refine calls_of_wp hf hbd (wp_mono (wpIn_wide.1 hs) fun x a w' hl=>?_)
 obtain⟨σ,Φ',ρ',h1,h2,h3,h4,h5,h6,h7⟩:=hl;have fin:(∃ e m',σ=⟨toE af.ntmps e,SMem.mem m'⟩∧I7 (EndT m.next K) m' (S1 af.ntmps e m' af.results))→a.defers=[] ∧ ∃ v,(results fn a.tmps).run P w'=.ok v w' ∧
  ∃ v' r m' Φ' ρ',Ending.returned v=.returned v'∧Ext Φ ρ Φ' ρ'∧(∀ b,b<m.mem.next→b∉([]:List Nat)→ρ b=none→ρ' b=none)∧Rel W Φ' ρ' m' w'∧R Φ' ρ' r v'∧m.mem.next≤m'.next ∧ ∃ sm:SMem,m'=sm.mem∧K r sm:=by
  rintro⟨e,m',rfl,hh⟩;obtain⟨v,g1,mt,ht,v0,m0,l,g2,g3⟩:=Zm4 hh;obtain⟨u,k1,k2⟩:=Zf1 h4 h5 hrs g1;obtain⟨ρ2,j1,j2,j3⟩:=g2.rel (n:=1) (vs:=#[u]) (ht.rel h4) ⟨rfl,fun i x y hx hy=>by
   cases i with
   | zero=>
    rw[I8 (by omega)]at hx
    simp only[Env.get,if_true,oI]at hx;have:u=y:=by simpa using hy
    subst hx; subst this; exact k2
   | succ i=>simp at hy⟩
  have k3:R Φ' ρ2 v0 u:=j3.2 0 v0 u (by rw[I8 (by omega)]; rfl) rfl
  have hfix:∀ b,b<m.next→ρ2 b=ρ b:=fun b hb=>(j1 b hb).trans (by
   cases hq:ρ b with
   | none=>exact h2 b hb hq
   | some l=>exact h1.rho b l hq)
  refine⟨h6,u,k1,u,v0,m0.mem,Φ',ρ2,rfl,⟨h1.pers,fun b l hb=>?_⟩,fun b hb _ h0=>(hfix b hb).trans h0,j2,k3,g2.1,m0,rfl,g3⟩
  exact(hfix b (hr.fresh b l hb)).trans hb
 cases x with
 | normal=>exact fin h7
 | ret=>exact fin h7
 | exit i=>exact h7.elim
 | goto l=>exact h7.elim
 | panic ch=>exact h7.elim
 | outgrown=>exact h7.elim
theorem Zrk(hm:P.follows .mixedOrders=true){f:FuncId}{fn:Func}{af:AFn}{args:List AVal}{m:SMem}{Post:AVal→SMem→Prop}{b G k:Nat}{els:List (List AVal)}(hG:Zeq P G)(hf:P.funcs[f]? = some fn)(hc:cFn P fn=some af){nt:Nat}{rs:List (Nat×Option (Option Nat))}{bd:ACode}(hd:af=⟨nt,rs,bd⟩)
 (hl:Nat.ble args.length nt=true) (hb:m.get b=some (.cells k els))
 (h:∀ K:AVal→SMem→Prop,(∀ r sm,Post r sm→K r sm) → ∀ N,els.length≤N→wpX P b N G nt bd (N9 nt rs (EndT m.next K)) (W9 0 args []) (padS m b k els N)):Ctr P f args m Post:=by
 subst hd;exact Z73 hm hG hf hc hl hb fun N hN=>h Post (fun _ _ h=>h) N hN
variable {K:Env→SMem→Prop} {Q:Exit→Env→SMem→Prop} {e:Env} {m:SMem}
theorem Zjz:wpX P b N G n .skip Q e m=Q .normal e m:=propext Iff.rfl
theorem Zkx(ops:List AOper):wpX P b N G n (.region false ops) Q e m=rops P b N G n m.next ops 0 (Q .normal) e (m.at (m.next+ops.length)):=propext Iff.rfl
theorem Zl5(ops:List AOper):wpX P b N G n (.region true ops) Q e m=(ops.all J3=true∧V6 P false n m.next ops 0 (Q .normal) e (m.at (m.next+ops.length))):=propext Iff.rfl
theorem Zkn(x y:ACode):wpX P b N G n (.seq x y) Q e m=wpX P b N G n x (P2 (wpX P b N G n y Q) Q) e m:=propext Iff.rfl
theorem Zmn(c:AOpd)(x y:ACode):wpX P b N G n (.cond c x y) Q e m=match evE n e c with
 | .bool true=>wpX P b N G n x Q e m
 | .bool false=>wpX P b N G n y Q e m
 | _=>False:=by
 simp only[wpX];unfold Zas;rfl
theorem Zm1:wpX P b N G n .ret Q e m=Q .ret e m:=propext Iff.rfl
theorem Zlq{i:Nat}:rops P b N G n base [] i K e m=K e m:=propext Iff.rfl
theorem Zj6{i:Nat}(d:Option Nat)(op:AOp)(un:List Nat)(r:List AOper):rops P b N G n base (⟨d,op,none,un⟩ :: r) i K e m=match op with
 | .call f xs=>(match X9 n e f xs with
  | some (g,args)=>g=G∧ovOk m args∧rops P b N G n base r (i+1) K (Y4 e d (.bool false)) m
  | none=>False)
 | op=>(match sxD b N (base+i) (evE n e) m.get op with
  | some (v,w)=>rops P b N G n base r (i+1) K (Y4 e d v) (m.app w)
  | none=>False):=by
 cases op<;>simp only[rops,V2,gdK]<;>rfl
variable {id:Nat} {f:AOpd→AVal} {get:Nat→Option ABlk}
theorem Zkw(x:AOpd):sxD b N id f get (.mov x)=stepD id f get (.mov x):=rfl
theorem Znl(x:AOpd):sxD b N id f get (.lenSl x)=stepD id f get (.lenSl x):=rfl
theorem Zka(q:EqT)(x y:AOpd):sxD b N id f get (.bin .add q x y)=stepD id f get (.bin .add q x y):=rfl
theorem Zlp(q:EqT)(x y:AOpd):sxD b N id f get (.bin .sub q x y)=stepD id f get (.bin .sub q x y):=rfl
theorem Zj9(q:EqT)(x y:AOpd):sxD b N id f get (.bin .eql q x y)=stepD id f get (.bin .eql q x y):=rfl
theorem Zks(q:EqT)(x y:AOpd):sxD b N id f get (.bin .gtr q x y)=match f y with
 | .atLeast _=>none
 | _=>stepD id f get (.bin .gtr q x y):=rfl
theorem Zkr(q:UnOp)(x:AOpd):sxD b N id f get (.un q x)=stepD id f get (.un q x):=rfl
theorem Znd(k:Nat)(x:AOpd)(l h z:Option AOpd):sxD b N id f get (.slSl k x l h z)=stepD id f get (.slSl k x l h z):=rfl
theorem Zmx(k:Nat)(x y:AOpd):sxD b N id f get (.copy k x y)=stepD id f get (.copy k x y):=rfl
theorem Zj3(x:AOpd):sxD b N id f get (.capSl x)=match f x with
 | .sl b' off _=>if b'=b∧off≤N then some (.int .i64 ((N - off:Nat):Int),[])else none
 | _=>none:=rfl
theorem Zo6(k bytes:Nat)(z:List AVal)(s x:AOpd):sxD b N id f get (.append k bytes z s x)=match f s with
 | .sl b' off len=>if b'=b then match P9 get k (f x),R2 get k (.sl b' off len)with
  | some xs,some olds=>if N<off+len+xs.length then (if len+xs.length≤X4∧bytes≤X4∧olds.length=len then some (.sl id 0 (len+xs.length),[(id,some (.cells k (olds++xs)))])else none)else stepD id f get (.append k bytes z s x)
  | _,_=>none
  else stepD id f get (.append k bytes z s x)
 | _=>stepD id f get (.append k bytes z s x):=rfl
theorem Zqz(k:Nat)(z:List AVal)(x:AOpd):sxD b N id f get (.clear k z x)=stepD id f get (.clear k z x):=rfl
theorem Zru(q:EqT)(x y:AOpd):sxD b N id f get (.bin .lss q x y)=stepD id f get (.bin .lss q x y):=rfl
theorem Zn1(q:EqT)(x y:AOpd):sxD b N id f get (.bin .leq q x y)=stepD id f get (.bin .leq q x y):=rfl
theorem Zmu(k bytes:Nat)(z:List AVal)(s x:AOpd):sxD b N id f get (.appendZ k bytes z s x)=match f s,f x with
 | .sl b' off len,.int _ n=>if b'=b∧0≤n then match R2 get k (.sl b' off len)with
  | some olds=>if N<off+len+n.toNat∧len+n.toNat≤X4∧bytes≤X4∧olds.length=len then some (.sl id 0 (len+n.toNat),[(id,some (.cells k (olds++List.replicate n.toNat z)))])else none
  | none=>none
  else none
 | _,_=>none:=rfl
end
end Go.AE
end
