/- Part 23 of the proof: Tb, AeRm. -/
import Derived.Test.YtilmpmlkndfbjaaGreatDoorI13
import Derived.Test.YtilmpmlkndfbjaaGreatDoorI22
import Derived.ProofKit
import Derived.Carry
import Derived.Deep.Slices
set_option linter.all false
section
namespace Go.Known
open Go Go.AE Go.Proofs
open Go.Plain
open Go.ChangeShapes Go.WideShapes Go.RowKit Go.Deep
variable {H:Type} {enc:TypeId×Value→H} {w:World} {base:Nat} {spare:Nat→Bool} {held:Bool}
set_option maxRecDepth 100000 in
theorem Zwa{n:Nat}{cs:List Value}{x:DataW H×List MemPlace}(h:DataW.trod enc Tryz.prog w base spare held n 54 cs=some x) :
 ∃ l:Lt,cs=[.int .i64 l.k,.int .i64 l.g,.int .i64 l.r,.int .i64 l.i,.int .i64 l.s,.bool l.o]:=by
 obtain⟨xs,m,_,_,D,p,j⟩:=DataW.trod_struct Tryz.underlying54 h;have I:Tryz.prog.cellsOf 54=6:=by kernel_rfl
 have q:Tryz.prog.cellsOf 3=1:=by kernel_rfl
 have G:Tryz.prog.cellsOf 4=1:=by kernel_rfl
 have J:Tryz.prog.cellsOf 52=1:=by kernel_rfl
 rw[I]at D
 match cs,D with
 | [a,b,c,d,e,f],_=>
  match xs,p with
  | [Z,x1,x2,x3,x4,x5],_=>
   have v:DataW.trod enc Tryz.prog w base spare held m 52 (([a,b,c,d,e,f].drop 0).take (Tryz.prog.cellsOf 52))=some Z:=j 0 _ rfl;rw[J]at v;have y:DataW.trod enc Tryz.prog w base spare held m 3 (([a,b,c,d,e,f].drop 1).take (Tryz.prog.cellsOf 3))=some x1:=j 1 _ rfl;rw[q]at y;have z:DataW.trod enc Tryz.prog w base spare held m 3 (([a,b,c,d,e,f].drop 2).take (Tryz.prog.cellsOf 3))=some x2:=j 2 _ rfl;rw[q]at z
   have A:DataW.trod enc Tryz.prog w base spare held m 3 (([a,b,c,d,e,f].drop 3).take (Tryz.prog.cellsOf 3))=some x3:=j 3 _ rfl;rw[q]at A;have B:DataW.trod enc Tryz.prog w base spare held m 3 (([a,b,c,d,e,f].drop 4).take (Tryz.prog.cellsOf 3))=some x4:=j 4 _ rfl;rw[q]at B;have C:DataW.trod enc Tryz.prog w base spare held m 4 (([a,b,c,d,e,f].drop 5).take (Tryz.prog.cellsOf 4))=some x5:=j 5 _ rfl;rw[G]at C
   obtain⟨n0,K,_,_⟩:=DataW.trod_int (t:=52) (k:=.i64) Tryz.underlying52 v;obtain⟨n1,L,_,_⟩:=DataW.trod_int (t:=3) (k:=.i64) Tryz.underlying3 y;obtain⟨n2,M,_,_⟩:=DataW.trod_int (t:=3) (k:=.i64) Tryz.underlying3 z;obtain⟨E,N,_,_⟩:=DataW.trod_int (t:=3) (k:=.i64) Tryz.underlying3 A;obtain⟨F,O,_,_⟩:=DataW.trod_int (t:=3) (k:=.i64) Tryz.underlying3 B;obtain⟨u,P,_⟩:=DataW.trod_bool (t:=4) Tryz.underlying4 C
   have Q:a=.int .i64 n0:=by simpa using K
   have S:b=.int .i64 n1:=by simpa using L
   have U:c=.int .i64 n2:=by simpa using M
   have V:d=.int .i64 E:=by simpa using N
   have X:e=.int .i64 F:=by simpa using O
   have Y:f=.bool u:=by simpa using P
   subst Q S U V X Y;exact⟨⟨n0,n1,n2,E,F,u⟩,rfl⟩
def rowV(l:Lt):List Value:=[.int .i64 l.k,.int .i64 l.g,.int .i64 l.r,.int .i64 l.i,.int .i64 l.s,.bool l.o]
def allP(w:World):Pers:=fun B=>match w.heap[B]? with
 | some (.cells c _ _)=>some c
 | _=>none
theorem Z97{w:World}{B:Nat}{c:Array Value}(h:allP w B=some c):∃ e fz,w.heap[B]? = some (.cells c e fz):=by
 unfold allP at h;split at h
 ·rename_i b e fz a;cases h;exact⟨e,fz,a⟩
 ·cases h
theorem Z1p(Φ:Pers)(ρ:Rho)(l:Lt)(j:Nat)(x:AVal)(h:(rowL l)[j]? = some x):∃ v,(rowV l)[j]? = some v∧v.oneCell'=true∧R Φ ρ x v:=by
 match j,h with
 | 0,h=>cases h; exact⟨_,rfl,rfl,.int _ _⟩
 | 1,h=>cases h; exact⟨_,rfl,rfl,.int _ _⟩
 | 2,h=>cases h; exact⟨_,rfl,rfl,.int _ _⟩
 | 3,h=>cases h; exact⟨_,rfl,rfl,.int _ _⟩
 | 4,h=>cases h; exact⟨_,rfl,rfl,.int _ _⟩
 | 5,h=>cases h; exact⟨_,rfl,rfl,.bool _⟩
 | j+6,h=>cases h
theorem Zl2(a:Addr)(n:Nat):(a.add n).block=a.block:=by unfold Addr.add; split<;>rfl
theorem Z1l(a:Addr)(n:Nat):(a.add n).off=a.off+n:=by
 unfold Addr.add;split
 ·rename_i h; rw[h]; rfl
 ·rfl
theorem Zv7{w:World}{base:Nat}{a:Addr}{n:Nat}{cs:List Value}(h:w.cells? base a n=some cs):∀ j,j<n→w.cell? (a.add j)=cs[j]? ∧ cs.length=n:=by
 unfold World.cells? at h;split at h
 ·intro j b;exact⟨mapM_some_get h j j (by simp[b]),by simpa using mapM_some_length h⟩
 ·cases h
theorem Zzj{w:World}{a:Addr}{v:Value}(h:w.cell? a=some v):∃ c e fz,w.heap[a.block]? = some (.cells c e fz)∧c[a.off]? = some v:=by
 unfold World.cell? at h;split at h
 ·rename_i c e fz b;split at h
  ·cases h
  ·exact⟨c,e,fz,b,h⟩
 ·cases h
theorem Zun{w:World}{a:Addr}{v:Value}(h:w.cell? a=some v):a.spot=none:=by
 unfold World.cell? at h;split at h
 ·split at h
  ·cases h
  ·rename_i b;cases c:a.spot with
   | none=>rfl
   | some _=>rw[c]at b; exact absurd rfl b
 ·cases h
theorem Yg7{n:Nat}{v:Value}{x:DataW H×List MemPlace}(h:DataW.trod enc Tryz.prog w 0 (fun _=>true) held n 28 [v]=some x):∃ ls:List Lt,∀ ρ,R (allP w) ρ (.imm (ls.map rowL)) v:=by
 have I:Tryz.prog.cellsOf 54=6:=by kernel_rfl
 rcases open_slice Tryz.underlying28 h with⟨F,_⟩|⟨a,len,cap,m,n',D,Y,F,_,K,_,hm,_,u⟩
 ·cases F;exact⟨[],fun ρ=>.imm0 _ _ fun Q=>absurd Q (by omega)⟩
 ·cases F;simp only[if_true]at hm;subst hm;rw[I]at u;have G:∀ i,∃ l:Lt,i<len→w.cells? 0 (a.add (i*6)) 6=some (rowV l):=fun i=>by
   by_cases hi:i<len
   ·obtain⟨C,d,q⟩:=u i (by omega)
    obtain⟨l,rfl⟩:=Zwa q;exact⟨l,fun _=>d⟩
   ·exact⟨default,fun h=>absurd h hi⟩
  obtain⟨L,G⟩:=Classical.axiomOfChoice G;rcases Nat.eq_zero_or_pos len with A|A
  ·subst A;refine⟨[],fun ρ=>.imm0 _ _ fun Q=>?_⟩
   obtain⟨C,d,q⟩:=u 0 (by omega)
   obtain⟨l,rfl⟩:=Zwa q;have P:=(Zv7 d 0 (by omega)).1
   have E:(a.add (0*6)).add 0=a:=by simp[Addr.add]
   rw[E]at P;have p:=Zun (v:=.int .i64 l.k) P;obtain⟨M,N,B⟩:=a;simp only at p;subst p;exact⟨_,_,rfl⟩
  have b:∀ i j,i<len→j<6→w.cell? ((a.add (i*6)).add j)=(rowV (L i))[j]?:=fun i j hi r=>(Zv7 (G i hi) j r).1
  have p:a.spot=none:=by
   have:=b 0 0 A (by omega)
   have E:(a.add (0*6)).add 0=a:=by simp[Addr.add]
   rw[E]at this;exact Zun this
  have z:∃ c e fz,w.heap[a.block]? = some (.cells c e fz):=by
   have:=b 0 0 A (by omega)
   obtain⟨c,e,fz,d,_⟩:=Zzj (v:=.int .i64 (L 0).k) this;rw[Zl2,Zl2]at d;exact⟨c,e,fz,d⟩
  obtain⟨c,e,fz,s⟩:=z;have y:∀ i j v,i<len→j<6→(rowV (L i))[j]? = some v→c[a.off+i*6+j]? = some v:=fun i j v hi r V=>by
   have O:=b i j hi r;rw[V]at O;obtain⟨Z,e',S,d,q⟩:=Zzj O;rw[Zl2,Zl2,s]at d;cases d;rw[Z1l,Z1l]at q;exact q
  have o:∀ (i:Nat) (row:List AVal),(((List.range len).map L).map rowL)[i]? = some row→i<len∧row=rowL (L i):=fun i row hi=>by
   rw[List.map_map,List.getElem?_map]at hi;by_cases g:i<len
   ·rw[List.getElem?_range g]at hi;cases hi;exact⟨g,rfl⟩
   ·rw[List.getElem?_eq_none (by simpa using g)]at hi
    cases hi
  have J:∀ (l:Lt) (j:Nat) (x:AVal),(rowL l)[j]? = some x→j<6:=fun l j x X=>(gS.1 X).1
  refine⟨(List.range len).map L,fun ρ=>?_⟩
  obtain⟨M,N,B⟩:=a;simp only at p s y;subst p;have f:(((List.range len).map L).map rowL).length=len:=by simp
  have:=R.imm (Φ:=allP w) (ρ:=ρ) (((List.range len).map L).map rowL) M N 6 _ c (fun i j=>((rowV (L i))[j]?).getD (.bool false)) (fun e=>by rw[e]at f; simp at f; omega) (by rw[f]; exact K)
   (by unfold allP; rw[s]) (fun i row hi=>by obtain⟨_,rfl⟩:=o i row hi; rfl)
   (fun i row j x hi r=>by
     obtain⟨g,rfl⟩:=o i row hi;obtain⟨v,d,q,_⟩:=Z1p (allP w) ρ (L i) j x r;rw[d];exact⟨y i j v g (J _ j x r) d,q⟩)
   (fun i row j x hi r=>by
     obtain⟨g,rfl⟩:=o i row hi;obtain⟨v,d,_,U⟩:=Z1p (allP w) ρ (L i) j x r;rw[d];exact U)
  rw[f]at this;exact this
set_option maxRecDepth 100000 in
theorem Zui{v:Value}{d:DataW H}{p:List MemPlace}{b:Nat}(a:Value.okWide Tryz.prog w .any b 30 v)(h:DataW.Trod enc Tryz.prog w 0 (fun _=>true) held 30 v d p):∃ (f:Int) (ls:List Lt),∀ ρ,R (allP w) ρ (cV f ls) v:=by
 unfold Value.okWide at a;rw[Tryz.underlying30]at a;obtain⟨cs,rfl,g,_⟩:=a;obtain⟨fuel,h⟩:=h;have z:Tryz.prog.cellsOf 30=2:=by kernel_rfl
 have y:Tryz.prog.cellsOf 3=1:=by kernel_rfl
 have j:Tryz.prog.cellsOf 28=1:=by kernel_rfl
 rw[z]at g;obtain⟨C,D,n,_,B,o,q⟩:=trod_struct2 Tryz.underlying30 h;obtain⟨u⟩:=cs
 match u,g with
 | [r,s],_=>
  simp only[y,j,Value.cells]at o q;obtain⟨k,A,_,_⟩:=DataW.trod_int (t:=3) (k:=.i64) Tryz.underlying3 o;have m:r=.int .i64 k:=by simpa using A
  subst m;obtain⟨ls,l⟩:=Yg7 (v:=s) q;refine⟨k,ls,fun ρ=>.agg _ _ rfl fun i x v c e=>?_⟩
  match i,c,e with
  | 0,c,e=>cases c; cases e; exact .int _ _
  | 1,c,e=>cases c; cases e; exact l ρ
  | i+2,c,e=>simp at c
end Go.Known
end
section
namespace Go.AE
open Go.RowKit
def sxD(b N:Nat)(id:Nat)(f:AOpd→AVal)(get:Nat→Option ABlk):AOp→Option (AVal×List (Nat×Option ABlk))
 | .capSl x=>match f x with
  | .sl b' off _=>if b'=b∧off≤N then some (.int .i64 ((N - off:Nat):Int),[])else none
  | _=>none
 | .bin .gtr e x y=>match f y with
  | .atLeast _=>none
  | _=>stepD id f get (.bin .gtr e x y)
 | .append k bytes z s x=>match f s with
  | .sl b' off len=>if b'=b then match N5 get k (f x),R4 get k (.sl b' off len)with
   | some xs,some olds=>if N<off+len+xs.length then (if len+xs.length≤X6∧bytes≤X6∧olds.length=len then some (.sl id 0 (len+xs.length),[(id,some (.cells k (olds++xs)))])else none)else stepD id f get (.append k bytes z s x)
   | _,_=>none
   else stepD id f get (.append k bytes z s x)
  | _=>stepD id f get (.append k bytes z s x)
 | .appendZ k bytes z s x=>match f s,f x with
  | .sl b' off len,.int _ n=>if b'=b∧0≤n then match R4 get k (.sl b' off len)with
   | some olds=>if N<off+len+n.toNat∧len+n.toNat≤X6∧bytes≤X6∧olds.length=len then some (.sl id 0 (len+n.toNat),[(id,some (.cells k (olds++List.replicate n.toNat z)))])else none
   | none=>none
   else none
  | _,_=>none
 | op=>stepD id f get op
theorem Ydr{b N id:Nat}{t:List AVal}{m:Mem}{op:AOp}{v:AVal}{d:List (Nat×Option ABlk)}(h:sxD b N id (ev t) m.get op=some (v,d)):stX b N true id t m op=some (v,m.apply d):=by
 unfold sxD at h;split at h
 ·rename_i x;simp only[stX];split at h<;>first|(cases h; done)|skip
  rename_i b' off len f;split at h<;>first|(cases h; done)|skip
  rename_i i;simp only[oI,pI2]at h;obtain⟨rfl,rfl⟩:=h;rw[f];simp only;rw[if_pos i];rfl
 ·rename_i e x y;have g:¬ ∃ k,ev t y=.atLeast k:=by
   rintro⟨k,p⟩;rw[p]at h;cases h
  have A:stepD id (ev t) m.get (.bin .gtr e x y)=some (v,d):=by
   split at h<;>first|(cases h; done)|exact h
  have:=Za3 A;simp only[stX];split
  ·rename_i k p;exact absurd ⟨k,p⟩ g
  ·exact this
 ·rename_i k a z s x;simp only[stX];cases g:ev t s with
  | sl b' off len=>
   rw[g]at h;simp only at h ⊢;split at h
   ·rename_i n;rw[if_pos n];have u:N7 m k (ev t x)=N5 m.get k (ev t x):=rfl;have w:L7 m k (.sl b' off len)=R4 m.get k (.sl b' off len):=rfl;rw[u,w];cases f:N5 m.get k (ev t x)with
    | none=>rw[f]at h; cases h
    | some xs=>
     cases q:R4 m.get k (.sl b' off len)with
     | none=>rw[f,q]at h; cases h
     | some j=>
      rw[f,q]at h;simp only at h ⊢;split at h
      ·rename_i l;rw[if_pos l];split at h
       ·rename_i i;rw[if_pos i];simp only[oI,pI2]at h;obtain⟨rfl,rfl⟩:=h;rfl
       ·cases h
      ·rename_i l;rw[if_neg l];exact Za3 h
   ·rename_i n;rw[if_neg n];exact Za3 h
  | _=>
   rw[g]at h;exact Za3 h
 ·rename_i k a z s x;simp only[stX];split at h<;>first|(cases h; done)|skip
  rename_i b' off len kx nn g f;split at h<;>first|(cases h; done)|skip
  rename_i i;rw[g,f];simp only;rw[if_pos i];have c:L7 m k (.sl b' off len)=R4 m.get k (.sl b' off len):=rfl;rw[c];cases r:R4 m.get k (.sl b' off len)with
  | none=>rw[r]at h; cases h
  | some j=>
   rw[r]at h;simp only at h ⊢;split at h<;>first|(cases h; done)|skip
   rename_i o;rw[if_pos o];simp only[oI,pI2]at h;obtain⟨rfl,rfl⟩:=h;rfl
 ·rename_i op B C D E;have:=Za3 h;unfold stX;split
  ·exact absurd rfl (B _)
  ·exact absurd rfl (C _ _ _)
  ·exact absurd rfl (D _ _ _ _ _)
  ·exact absurd rfl (E _ _ _ _ _)
  ·exact this
def isC:Option ABlk→Prop
 | some (.cells k _)=>0<k
 | _=>False
def ovOk(m:SMem):List AVal→Prop
 | [.sl b1 _ l1,.sl b2 _ l2]=>b1≠b2∧0<l1∧0<l2∧isC (m.get b1)∧isC (m.get b2)
 | _=>False
section
variable {P:Program} {b N G n base:Nat}
def rops(P:Program)(b N G n base:Nat):List AOper→Nat→(Env→SMem→Prop)→Env→SMem→Prop
 | [],_,K,e,m=>K e m
 | o :: r,i,K,e,m=>gdK (V4 n e o.guard)
  (match o.op with
  | .call f xs=>clK (W4 n e f xs) fun g args=>g=G∧ovOk m args∧rops P b N G n base r (i+1) K (Y6 e o.dst (.bool false)) m
  | op=>stK (sxD b N (base+i) (evE n e) m.get op) fun v d=>rops P b N G n base r (i+1) K (Y6 e o.dst v) (m.app d))
  (rops P b N G n base r (i+1) K (Y6 e o.dst aundef) m)
theorem Z0f{e:Env}{f:AOpd}{xs:List AOpd}{g:FuncId}{args:List AVal}(h:W4 n e f xs=some (g,args)):Za4 (toE n e) f xs=some (.func g,args):=by
 unfold W4 at h;unfold Za4;rw[L8];split at h<;>first|(cases h; done)|skip
 rename_i b first cap a;simp only[oI,pI2]at h;obtain⟨rfl,rfl⟩:=h;rw[a]
theorem Zli{K:Env→SMem→Prop}{K':ASt→Prop}(l:∀ e m,K e m→K' ⟨toE n e,m.mem⟩):∀ (k:List AOper) (i:Nat) (e:Env) (m:SMem),rops P b N G n base k i K e m→O9 (stX b N true) (cwX P G) base k i K' (toE n e) m.mem
 | [],_,_,_,h=>l _ _ h
 | o :: r,i,e,m,h=>by
  simp only[rops]at h;simp only[O9,Zgk];cases z:V4 n e o.guard with
  | none=>rw[z]at h; exact h
  | some q=>
   rw[z]at h;cases q with
   | false=>
    simp only[J0];exact Zli l r _ _ _ h
   | true=>
    simp only[gdK]at h;simp only;have a:∀ op,stK (sxD b N (base+i) (evE n e) m.get op) (fun v d=>rops P b N G n base r (i+1) K (Y6 e o.dst v) (m.app d)) →
     (match stX b N true (base+i) (toE n e) m.mem op with|some (v,m')=>O9 (stX b N true) (cwX P G) base r (i+1) K' (put (toE n e) o.dst v) m'|none=>False):=by
     intro op c;cases w:sxD b N (base+i) (evE n e) m.get op with
     | none=>rw[w]at c; exact c.elim
     | some Y=>
      obtain⟨v,d⟩:=Y;rw[w]at c;have:=Ydr (t:=toE n e) (m:=m.mem) (op:=op) (v:=v) (d:=d) (b:=b) (N:=N) (id:=base+i) (by rw[L8]; exact w)
      rw[this];simp only[J0];rw[← SMem.app_mem];exact Zli l r _ _ _ c
    cases j:o.op with
    | call f xs=>
     simp only[j]at h;simp only;cases u:W4 n e f xs with
     | none=>rw[u]at h; exact h.elim
     | some H=>
      obtain⟨g,args⟩:=H;rw[u]at h;obtain⟨I,p,c⟩:=h;rw[Z0f u,I];simp only;refine .inr ⟨rfl,?_⟩;unfold ovOk at p;split at p<;>first|exact p.elim|skip
      rename_i A Q M B S O;obtain⟨U,V,X,y,s⟩:=p;unfold isC at y s;split at y<;>first|exact y.elim|skip
      rename_i J C E;split at s<;>first|exact s.elim|skip
      rename_i L D F;refine⟨A,Q,M,B,S,O,J,C,L,D,rfl,U,V,X,s,E,F,?_⟩;simp only[J0];exact Zli l r _ _ _ c
    | _=>rw[j]at h; exact a _ h
def wpX(P:Program)(b N G n:Nat):ACode→(Exit→Env→SMem→Prop)→Env→SMem→Prop
 | .skip,Q,e,m=>Q .normal e m
 | .region false ops,Q,e,m=>rops P b N G n m.next ops 0 (Q .normal) e (m.at (m.next+ops.length))
 | .region true ops,Q,e,m=>ops.all H7=true∧V7 P false n m.next ops 0 (Q .normal) e (m.at (m.next+ops.length))
 | .seq x y,Q,e,m=>wpX P b N G n x (O1 (wpX P b N G n y Q) Q) e m
 | .cond c x y,Q,e,m=>Zay (evE n e c) (wpX P b N G n x Q e m) (wpX P b N G n y Q e m)
 | .ret,Q,e,m=>Q .ret e m
 | _,_,_,_=>False
theorem Z74{c:ACode}:∀ {Q:Exit→Env→SMem→Prop} {R:Exit→ASt→Prop} {e:Env} {m:SMem},wpX P b N G n c Q e m→(∀ x e m,Q x e m→R x ⟨toE n e,m.mem⟩)→U6 (wrG P true (stX b N true) (cwX P G)) true c R ⟨toE n e,m.mem⟩:=by
 induction c with
 | skip=>exact fun h a=>a _ _ _ h
 | region i d=>
  intro Q R e m h a;cases i with
  | false=>exact Zli (a .normal) d 0 e _ h
  | true=>
   refine⟨rfl,?_⟩;have o:=Zil d [] e _ (Zhs d [] e _ (Zy4 h.1) (Zk7 d 0 _ _ h.1 h.2));exact Zga (P:=P) (c:=.region true d) (Q:=fun _ σ=>∃ (k:Env) (l:SMem),σ=⟨toE n k,l.mem⟩∧Q .normal k l) (Q':=fun _ σ=>R .normal σ) (σ:=⟨toE n e,m.mem⟩) o fun x σ j=>by
    obtain⟨k,l,rfl,p⟩:=j;exact a _ _ _ p
 | seq x y f g=>
  intro Q R e m h a;refine f h fun x e m j=>?_
  cases x<;>first|exact g j a|exact a _ _ _ j
 | cond c x y f g=>
  intro Q R e m h a;simp only[wpX]at h;simp only[U6,L8];generalize evE n e c=v at h;cases v<;>first|exact h.elim|skip
  rename_i q;cases q
  ·exact g h a
  ·exact f h a
 | ret=>exact fun h a=>a _ _ _ h
 | _=>intro Q R e m h; exact h.elim
def padS(m:SMem)(b k:Nat)(els:List (List AVal))(N:Nat):SMem:=m.app [(b,some (.cells k (els++List.replicate (N - els.length) (List.replicate k .bot))))]
theorem BR.pref{Φ:Pers}{ρ:Rho}{k:Nat}{els a:List (List AVal)}{l:Loc}{o:Obj}(h:BR Φ ρ (.cells k (els++a)) l o):BR Φ ρ (.cells k els) l o:=by
 cases h with
 | cells k d l c e p q b g m=>
  have f:∀ (i:Nat) (row:List AVal),els[i]? = some row→(els++a)[i]? = some row:=fun i row hi=>by
   rw[List.getElem?_append_left (gS.1 hi).1]; exact hi
  refine .cells k els l c e p q (by simp at b; omega) ⟨fun i row hi=>g.1 i row (f i row hi),fun i row j x hi n=>g.2 i row j x (f i row hi) n⟩ m
def Trim(mt m:SMem):Prop:=m.next=mt.next ∧ ∀ b x,mt.get b=some x→m.get b=some x ∨ ∃ k els rest,x=.cells k els∧m.get b=some (.cells k (els++rest))
theorem Trim.rel{mt m:SMem}(c:Trim mt m){W:Base}{Φ:Pers}{ρ:Rho}{w:World}(h:Rel W Φ ρ m.mem w):Rel W Φ ρ mt.mem w:=by
 refine⟨h.base,h.pers,fun b x d=>?_,fun b b' x C l l' r s t u v=>?_,fun b l z=>?_,h.newp⟩
 ·rcases c.2 b x d with g|⟨k,els,f,rfl,g⟩
  ·exact h.live b x g
  ·obtain⟨l,o,i,j,n,p,q⟩:=h.live b _ g;exact⟨l,o,i,j,n,p,q.pref⟩
 ·have a:∀ b x,mt.get b=some x → ∃ y,m.get b=some y:=fun b x d=>by
   rcases c.2 b x d with g|⟨_,_,_,_,g⟩<;>exact ⟨_,g⟩
  obtain⟨y,A⟩:=a _ _ r;obtain⟨B,e⟩:=a _ _ s;exact h.inj b b' y B l l' A e t u v
 ·have:=h.fresh b l z;show b<mt.next;rw[← c.1];exact this
def EndT(n0:Nat)(K:AVal→SMem→Prop)(v:AVal)(m:SMem):Prop:=∃ mt,Trim mt m∧S4 n0 K v mt
theorem Trim.refl(m:SMem):Trim m m:=⟨rfl,fun _ _ h=>.inl h⟩
theorem Ybo(hm:P.follows .mixedOrders=true){f:FuncId}{fn:Func}{d:AFn}{args:List AVal}{m:SMem}{K:AVal→SMem→Prop}{k:Nat}{els:List (List AVal)}(hG:Ze9 P G)(X:P.funcs[f]? = some fn)(hc:cFn P fn=some d)(H:Nat.ble args.length d.ntmps=true)
 (p:m.get b=some (.cells k els))
 (h:∀ N,els.length≤N→wpX P b N G d.ntmps d.body (M8 d.ntmps d.results (EndT m.next K)) (V2 0 args []) (padS m b k els N)):Ctr P f args m K:=by
 obtain⟨c,C,s,L,ac,t⟩:=Zin hc;have ab:args.length≤d.ntmps:=Nat.le_of_ble_eq_true H;refine⟨⟨fn,X,t,by rw[C]; rfl⟩,fun W Φ ρ vs w I ha aa=>?_⟩
 have M:=Zh3 (k:=fn.ntmps) ha;have O:RL Φ ρ (toE d.ntmps (V2 0 args [])) (vs++Array.replicate (fn.ntmps - vs.size) undef):=by
  refine M.sub (by rw[L3]; simp; omega) fun i x j=>?_
  have hi:i<d.ntmps:=by
   have:=(gS.1 j).1;rwa[L3]at this
  rw[H8 hi,Zhj]at j;injection j with j
  by_cases E:0≤i∧i<0+args.length
  ·rw[if_pos E]at j;rw[List.getElem?_append,if_pos (by omega)]
   refine .inr ?_;rw[← j,Nat.sub_zero,List.getD,gE (by omega)]
   rfl
  ·rw[if_neg E]at j;exact .inl j.symm
 obtain⟨l,ob,D,F,Q,g4,g5⟩:=I.live b _ p;have Y:l.sh+els.length≤l.n:=by
  cases g5 with
  | cells _ _ _ c e q1 q2 q3 q4 q5=>exact q3
 obtain⟨N,hN⟩:∃ N,l.n=l.sh+N:=⟨l.n - l.sh,by omega⟩
 have J:Rel W Φ ρ (padS m b k els N).mem w:=by
  have:=Zz3 (N:=N) I p D (by omega) (by omega)
  have e:(padS m b k els N).mem=m.mem.set b (.cells k (els++List.replicate (N - els.length) (List.replicate k .bot))):=by
   unfold padS;rw[SMem.app_mem];rfl
  rw[e];exact this
 have V:=Z74 (h N (by omega)) (R:=fun x σ=>match x with
  | .normal=>∃ e g,σ=⟨toE d.ntmps e,SMem.mem g⟩∧G6 (EndT m.next K) g (S3 d.ntmps e g d.results)
  | .ret=>∃ e g,σ=⟨toE d.ntmps e,SMem.mem g⟩∧G6 (EndT m.next K) g (S3 d.ntmps e g d.results)
  | _=>False) fun x e g j=>by
   cases x<;>first|exact j.elim|exact⟨e,g,rfl,j⟩
 rw[s]at V;have hs:=Zpf (n:=0) hm HEx.mono (Zy9 Open.wide b N true) (Zz0 hG) c _ _ V W Φ ρ ⟨l,D,hN⟩ { tmps:=vs++Array.replicate (fn.ntmps - vs.size) undef,defers:=[] } w J O rfl;refine calls_of_wp X C (wp_mono (wpIn_wide.1 hs) fun x a w' H=>?_)
 obtain⟨σ,o,ρ',S,E,h3,U,h5,h6,A⟩:=H;have B:(∃ e g,σ=⟨toE d.ntmps e,SMem.mem g⟩∧G6 (EndT m.next K) g (S3 d.ntmps e g d.results))→a.defers=[] ∧ ∃ v,(results fn a.tmps).run P w'=.ok v w' ∧
  ∃ v' r g o ρ',Ending.returned v=.returned v'∧Ext Φ ρ o ρ'∧(∀ b,b<m.mem.next→b∉([]:List Nat)→ρ b=none→ρ' b=none)∧Rel W o ρ' g w'∧R o ρ' r v'∧m.mem.next≤g.next ∧ ∃ sm:SMem,g=sm.mem∧K r sm:=by
  rintro⟨e,g,rfl,hh⟩;obtain⟨v,D,mt,ht,v0,m0,l,F,Q⟩:=Zlq hh;obtain⟨u,k1,k2⟩:=Zg2 U h5 L D;obtain⟨z,j1,j2,j3⟩:=F.rel (n:=1) (vs:=#[u]) (ht.rel U) ⟨rfl,fun i x y j hy=>by
   cases i with
   | zero=>
    rw[H8 (by omega)]at j
    simp only[Env.get,if_true,oI]at j;have:u=y:=by simpa using hy
    subst j; subst this; exact k2
   | succ i=>simp at hy⟩
  have k3:R o z v0 u:=j3.2 0 v0 u (by rw[H8 (by omega)]; rfl) rfl
  have q:∀ b,b<m.next→z b=ρ b:=fun b p=>(j1 b p).trans (by
   cases Z:ρ b with
   | none=>exact E b p Z
   | some l=>exact S.rho b l Z)
  refine⟨h6,u,k1,u,v0,m0.mem,o,z,rfl,⟨S.pers,fun b l p=>?_⟩,fun b p _ h0=>(q b p).trans h0,j2,k3,F.1,m0,rfl,Q⟩
  exact(q b (I.fresh b l p)).trans p
 cases x with
 | normal=>exact B A
 | ret=>exact B A
 | exit i=>exact A.elim
 | goto l=>exact A.elim
 | panic ch=>exact A.elim
 | outgrown=>exact A.elim
theorem Zo6(hm:P.follows .mixedOrders=true){f:FuncId}{fn:Func}{d:AFn}{args:List AVal}{m:SMem}{a:AVal→SMem→Prop}{b G k:Nat}{els:List (List AVal)}(i:Ze9 P G)(p:P.funcs[f]? = some fn)(n:cFn P fn=some d){c:Nat}{e:List (Nat×Option (Option Nat))}{bd:ACode}(o:d=⟨c,e,bd⟩)
 (q:Nat.ble args.length c=true) (l:m.get b=some (.cells k els))
 (h:∀ K:AVal→SMem→Prop,(∀ r g,a r g→K r g) → ∀ N,els.length≤N→wpX P b N G c bd (M8 c e (EndT m.next K)) (V2 0 args []) (padS m b k els N)):Ctr P f args m a:=by
 subst o;exact Ybo hm i p n q l fun N j=>h a (fun _ _ h=>h) N j
variable {K:Env→SMem→Prop} {Q:Exit→Env→SMem→Prop} {e:Env} {m:SMem}
theorem Zmb:wpX P b N G n .skip Q e m=Q .normal e m:=propext Iff.rfl
theorem Zn0(a:List AOper):wpX P b N G n (.region false a) Q e m=rops P b N G n m.next a 0 (Q .normal) e (m.at (m.next+a.length)):=propext Iff.rfl
theorem Zl4(a:List AOper):wpX P b N G n (.region true a) Q e m=(a.all H7=true∧V7 P false n m.next a 0 (Q .normal) e (m.at (m.next+a.length))):=propext Iff.rfl
theorem Zlc(x y:ACode):wpX P b N G n (.seq x y) Q e m=wpX P b N G n x (O1 (wpX P b N G n y Q) Q) e m:=propext Iff.rfl
theorem Znc(c:AOpd)(x y:ACode):wpX P b N G n (.cond c x y) Q e m=match evE n e c with
 | .bool true=>wpX P b N G n x Q e m
 | .bool false=>wpX P b N G n y Q e m
 | _=>False:=by
 simp only[wpX];unfold Zay;rfl
theorem Zn2:wpX P b N G n .ret Q e m=Q .ret e m:=propext Iff.rfl
theorem Zlo{i:Nat}:rops P b N G n base [] i K e m=K e m:=propext Iff.rfl
theorem Zl3{i:Nat}(d:Option Nat)(op:AOp)(un:List Nat)(r:List AOper):rops P b N G n base (⟨d,op,none,un⟩ :: r) i K e m=match op with
 | .call f xs=>(match W4 n e f xs with
  | some (g,args)=>g=G∧ovOk m args∧rops P b N G n base r (i+1) K (Y6 e d (.bool false)) m
  | none=>False)
 | op=>(match sxD b N (base+i) (evE n e) m.get op with
  | some (v,w)=>rops P b N G n base r (i+1) K (Y6 e d v) (m.app w)
  | none=>False):=by
 cases op<;>simp only[rops,V4,gdK]<;>rfl
variable {id:Nat} {f:AOpd→AVal} {get:Nat→Option ABlk}
theorem Znd(x:AOpd):sxD b N id f get (.mov x)=stepD id f get (.mov x):=rfl
theorem Zm3(x:AOpd):sxD b N id f get (.lenSl x)=stepD id f get (.lenSl x):=rfl
theorem Zmj(q:EqT)(x y:AOpd):sxD b N id f get (.bin .add q x y)=stepD id f get (.bin .add q x y):=rfl
theorem Zna(q:EqT)(x y:AOpd):sxD b N id f get (.bin .sub q x y)=stepD id f get (.bin .sub q x y):=rfl
theorem Zlg(q:EqT)(x y:AOpd):sxD b N id f get (.bin .eql q x y)=stepD id f get (.bin .eql q x y):=rfl
theorem Zl7(q:EqT)(x y:AOpd):sxD b N id f get (.bin .gtr q x y)=match f y with
 | .atLeast _=>none
 | _=>stepD id f get (.bin .gtr q x y):=rfl
theorem Zlt(q:UnOp)(x:AOpd):sxD b N id f get (.un q x)=stepD id f get (.un q x):=rfl
theorem Zmo(k:Nat)(x:AOpd)(l h z:Option AOpd):sxD b N id f get (.slSl k x l h z)=stepD id f get (.slSl k x l h z):=rfl
theorem Znh(k:Nat)(x y:AOpd):sxD b N id f get (.copy k x y)=stepD id f get (.copy k x y):=rfl
theorem Zm5(x:AOpd):sxD b N id f get (.capSl x)=match f x with
 | .sl b' off _=>if b'=b∧off≤N then some (.int .i64 ((N - off:Nat):Int),[])else none
 | _=>none:=rfl
theorem Zp4(k a:Nat)(z:List AVal)(s x:AOpd):sxD b N id f get (.append k a z s x)=match f s with
 | .sl b' off len=>if b'=b then match N5 get k (f x),R4 get k (.sl b' off len)with
  | some xs,some c=>if N<off+len+xs.length then (if len+xs.length≤X6∧a≤X6∧c.length=len then some (.sl id 0 (len+xs.length),[(id,some (.cells k (c++xs)))])else none)else stepD id f get (.append k a z s x)
  | _,_=>none
  else stepD id f get (.append k a z s x)
 | _=>stepD id f get (.append k a z s x):=rfl
theorem Zr9(k:Nat)(z:List AVal)(x:AOpd):sxD b N id f get (.clear k z x)=stepD id f get (.clear k z x):=rfl
theorem Zpb(q:EqT)(x y:AOpd):sxD b N id f get (.bin .lss q x y)=stepD id f get (.bin .lss q x y):=rfl
theorem Zss(q:EqT)(x y:AOpd):sxD b N id f get (.bin .leq q x y)=stepD id f get (.bin .leq q x y):=rfl
theorem Zk2(k a:Nat)(z:List AVal)(s x:AOpd):sxD b N id f get (.appendZ k a z s x)=match f s,f x with
 | .sl b' off len,.int _ n=>if b'=b∧0≤n then match R4 get k (.sl b' off len)with
  | some c=>if N<off+len+n.toNat∧len+n.toNat≤X6∧a≤X6∧c.length=len then some (.sl id 0 (len+n.toNat),[(id,some (.cells k (c++List.replicate n.toNat z)))])else none
  | none=>none
  else none
 | _,_=>none:=rfl
end
end Go.AE
end
