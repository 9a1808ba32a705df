/- Part 34 of the proof: Sy, Tm, Tx, Wc, Zc, Wg, Wh, AeEm, Yd, Ye, Yh. -/
import Derived.Test.YtilmpmlkndfbjaaGreatDoorR10
import Derived.Test.YtilmpmlkndfbjaaGreatDoorR11
import Derived.Test.YtilmpmlkndfbjaaGreatDoorR12
import Derived.Test.YtilmpmlkndfbjaaGreatDoorR25
import Derived.Test.YtilmpmlkndfbjaaGreatDoorR26
import Derived.Test.YtilmpmlkndfbjaaGreatDoorR27
import Derived.Test.YtilmpmlkndfbjaaGreatDoorR30
import Derived.Test.YtilmpmlkndfbjaaGreatDoorR31
import Derived.Test.YtilmpmlkndfbjaaGreatDoorR33
import Derived.Shelf.SlSortCmp.NoneTotal
import Derived.Test.YtilmpmlkndfbjaaGreatDoorProg
import Derived.Deep.QuietTactic
import Derived.BigQuiet
set_option linter.all false
section
namespace Go.Known
open Go Go.AE Go.Proofs
open Go.Plain
def Ztc(x:Fg):Prop:=1≤x.p∧x.p≤9∧0≤x.d∧x.d≤6
instance (x:Fg):Decidable (Ztc x):=by unfold Ztc; infer_instance
end Go.Known
end
section
namespace Go.Known
open Go Go.AE Go.Proofs
open Go.Plain
@[simp] theorem Ydp(id : Nat)(f : AOpd → AVal)(get : Nat → Option ABlk)(k : Nat)(zero : List AVal)(x : AOpd) : stepD id f get (.clear k zero x) = match f x with
 | .sl b off len=>match get b with
  | some (.cells a els)=>if a=k∧off+len≤els.length then
   some (aundef,[(b,some (.cells k (els.take off++List.replicate len zero++els.drop (off+len))))])
   else none
  | _=>none
 | .nilSl=>some (aundef,[])
 | .emp=>some (aundef,[])
 | _=>none:=rfl
@[simp] theorem Yew(id : Nat)(f : AOpd → AVal)(get : Nat → Option ABlk)(a : Bool)(x y : AOpd) : stepD id f get (.minmax a [x, y]) = match Zct a (f x) [f y] with
  | some v=>some (v,[])
  | none=>none:=rfl
@[simp] theorem mm_int(c : Bool)(k d : IntKind)(a b : Int) : Zct c (.int k a) [.int d b] = some (.int k (if c then (if b > a then b else a) else (if b < a then b else a))) := rfl
end Go.Known
end
section
namespace Go.Known
open Go Go.AE Go.Proofs
open Go.Plain
theorem Zhq{get:Nat→Option ABlk}{S:List Nat}{b k len:Nat}{els:List (List AVal)}(c:Y8 b S=true)(d:get b=some (.cells k els))(e:len≤els.length)(f:∀ row,row∈els.take len → ∀ x,x∈row→X3 (D2 get S) 4 x=some x):fzV get S (.sl b 0 len)=.imm (els.take len):=by
 have h:D2 get S b=some (.cells k els):=by unfold D2; rw[c]; exact d
 have a:Nat.ble (0+len) els.length=true:=by rw[Nat.zero_add]; exact Nat.ble_eq_true_of_le e
 unfold fzV;rw[X3];simp only[h,a,cond_true,List.drop_zero,Zi0 f]
end Go.Known
end
section
namespace Go.Known
open Go Go.AE Go.Proofs
open Go.Plain
open Go.ChangeShapes Go.WideShapes Go.RowKit Go.Deep
variable {H:Type} {enc:TypeId×Value→H} {w:World} {base:Nat} {spare:Nat→Bool} {held:Bool}
theorem Zyf{α:Type} [Inhabited α] (d:α→List AVal) (b:α→List Value) {k:Nat} {V G:TypeId} (hu:Tryz.prog.underlying V=some (.slice G)) (P:Tryz.prog.cellsOf G=k) (S:0<k)
 (hA:∀ x,(d x).length=k) (hB:∀ x,(b x).length=k)
 (z:∀ (Φ:Pers) (ρ:Rho) (l:α) (j:Nat) (x:AVal),(d l)[j]? = some x → ∃ v,(b l)[j]? = some v∧v.oneCell'=true∧R Φ ρ x v)
 (r:∀ (m:Nat) (cs:List Value) (x:DataW H×List MemPlace),DataW.trod enc Tryz.prog w 0 (fun _=>true) held m G cs=some x → ∃ l:α,cs=b l)
 {n:Nat} {v:Value} {x:DataW H×List MemPlace} (h:DataW.trod enc Tryz.prog w 0 (fun _=>true) held n V [v]=some x):∃ ls:List α,∀ ρ,R (allP w) ρ (.imm (ls.map d)) v:=by
 have hf:∀ l:α,∃ v0,(b l)[0]? = some v0:=fun l=>⟨(b l)[0]'(by rw[hB]; exact S),gE _⟩
 rcases open_slice hu h with⟨N,_⟩|⟨a,len,cap,m,n',D,Pl,N,_,U,_,hm,_,B⟩
 ·cases N;exact⟨[],fun ρ=>.imm0 _ _ fun hp=>absurd hp (by omega)⟩
 ·cases N;simp only[if_true]at hm;subst hm;rw[P]at B;have O:∀ i,∃ l:α,i<len→w.cells? 0 (a.add (i*k)) k=some (b l):=fun i=>by
   by_cases hi:i<len
   ·obtain⟨J,f,u⟩:=B i (by omega)
    obtain⟨l,rfl⟩:=r _ _ _ u;exact⟨l,fun _=>f⟩
   ·exact⟨default,fun h=>absurd h hi⟩
  obtain⟨L,O⟩:=Classical.axiomOfChoice O;rcases Nat.eq_zero_or_pos len with M|M
  ·subst M;refine⟨[],fun ρ=>.imm0 _ _ fun hp=>?_⟩
   obtain⟨J,f,u⟩:=B 0 (by omega)
   obtain⟨l,rfl⟩:=r _ _ _ u;obtain⟨v0,C⟩:=hf l;have hh:=(Zwx f 0 S).1;have K:(a.add (0*k)).add 0=a:=by simp[Addr.add]
   rw[K,C]at hh;have s:=Zwm hh;obtain⟨X,Y,I⟩:=a;simp only at s;subst s;exact⟨_,_,rfl⟩
  have p:∀ i j,i<len→j<k→w.cell? ((a.add (i*k)).add j)=(b (L i))[j]?:=fun i j hi y=>(Zwx (O i hi) j y).1
  obtain⟨v0,C⟩:=hf (L 0);have t:=p 0 0 M S;rw[C]at t;have s:a.spot=none:=by
   have K:(a.add (0*k)).add 0=a:=by simp[Addr.add]
   rw[K]at t;exact Zwm t
  have F:∃ c e fz,w.heap[a.block]? = some (.cells c e fz):=by
   obtain⟨c,e,fz,f,_⟩:=Zw4 t;rw[Zls,Zls]at f;exact⟨c,e,fz,f⟩
  obtain⟨c,e,fz,A⟩:=F;have E:∀ i j v,i<len→j<k→(b (L i))[j]? = some v→c[a.off+i*k+j]? = some v:=fun i j v hi y hv=>by
   have Z:=p i j hi y;rw[hv]at Z;obtain⟨c',e',aa,f,u⟩:=Zw4 Z;rw[Zls,Zls,A]at f;cases f;rw[Zsr,Zsr]at u;exact u
  have q:∀ (i:Nat) (row:List AVal),(((List.range len).map L).map d)[i]? = some row→i<len∧row=d (L i):=fun i row hi=>by
   rw[List.map_map,List.getElem?_map]at hi;by_cases o:i<len
   ·rw[List.getElem?_range o]at hi;cases hi;exact⟨o,rfl⟩
   ·rw[List.getElem?_eq_none (by simpa using o)]at hi
    cases hi
  have Q:∀ (l:α) (j:Nat) (x:AVal),(d l)[j]? = some x→j<k:=fun l j x hx=>by rw[← hA l]; exact(gS.1 hx).1
  refine⟨(List.range len).map L,fun ρ=>?_⟩
  obtain⟨X,Y,I⟩:=a;simp only at s A E;subst s;have g:(((List.range len).map L).map d).length=len:=by simp
  have:=R.imm (Φ:=allP w) (ρ:=ρ) (((List.range len).map L).map d) X Y k _ c (fun i j=>((b (L i))[j]?).getD (.bool false)) (fun e=>by rw[e]at g; simp at g; omega) (by rw[g]; exact U)
   (by unfold allP; rw[A]) (fun i row hi=>by obtain⟨_,rfl⟩:=q i row hi; exact hA _)
   (fun i row j x hi y=>by
     obtain⟨o,rfl⟩:=q i row hi;obtain⟨v,f,u,_⟩:=z (allP w) ρ (L i) j x y;rw[f];exact⟨E i j v o (Q _ j x y) f,u⟩)
   (fun i row j x hi y=>by
     obtain⟨o,rfl⟩:=q i row hi;obtain⟨v,f,_,g3⟩:=z (allP w) ρ (L i) j x y;rw[f];exact g3)
  rw[g]at this;exact this
end Go.Known
end
section
namespace Go.Known
open Go.Plain
theorem Zza{f:Int}{ls:List Lt}(d:0≤f)(a:∀ l,l∈ls→okR f ls l=true)(t:(at' ls 0).k=1)(s:ls≠[]):Wv ls:=by
 obtain⟨_,_,g⟩:=ValR.ranks d a;have b:0<ls.length:=List.length_pos_iff.2 s;refine⟨?_,fun v e c=>(Zrk (a _ (K2 e))).resolve_right c,fun v e c=>?_⟩
 ·rw[← H6];exact List.length_pos_of_mem (mem_axis.2 ⟨b,by simp[isP,t]⟩)
 ·obtain⟨_,_,j,_,_,_,i,E,m,w,y,z,A,B⟩:=Zfk g e (by simp[isX,c])
  obtain⟨_,_,h,_,_,_,n,o,p,q,C,D,_,r⟩:=Zfk g i m;rw[B];have u:h=v:=(A h n p (by rw[q,w])).resolve_right o
  exact⟨i,by simpa[isX]using m,by rw[r,u],y,z⟩
theorem Z6v{f:Int}{ls:List Lt}(a:0≤f)(b:∀ l,l∈ls→okR f ls l=true){v:Nat}(e:v<ls.length)(d:(at' ls v).k=2):T2 ls v ls.length 0≠v∧(at' ls (T2 ls v ls.length 0)).i=(at' ls v).i:=by
 obtain⟨_,_,c⟩:=ValR.ranks a b;obtain⟨_,_,j,_,_,_,n,g,o,h,p,q,r,m⟩:=Zfk c e (by simp[isX,d])
 rw[m];exact⟨g,h⟩
theorem Z8q{e:Bool}{y x:List Lt}{s:Nat}{φ:Int→Int}(d:x.length=y.length)(k:s<y.length)(h:∀ p,p<y.length→at' x p=ap φ (at' y (mvt y.length e s p)))(q:Lt→Bool):Z5 q x=Z5 (fun a=>q (ap φ a)) y:=by
 have hm:∀ l:List Lt,Z5 q (l.map (ap φ))=Z5 (fun a=>q (ap φ a)) l:=fun l=>Zkj q (ap φ) l
 cases e with
 | true=>
  have g:x=(B4 s y).map (ap φ):=by
   refine Zi9 (by rw[List.length_map,Zfz,d]) fun q b=>?_
   rw[d]at b;rw[h q b,atm (by rw[Zfz]; exact b),Zjz k b]
  rw[g,hm,Zl6]
 | false=>
  have g:x=(B4 (y.length - 1 - s) y.reverse).map (ap φ):=by
   refine Zi9 (by rw[List.length_map,Zfz,List.length_reverse,d]) fun q b=>?_
   rw[d]at b;have f:y.length - 1 - s<y.reverse.length:=by rw[List.length_reverse]; omega
   have c:q<y.reverse.length:=by rw[List.length_reverse]; exact b
   have i:y.length - 1 - mvt y.length true (y.length - 1 - s) q=mvt y.length false s q:=by
    unfold mvt;simp only[bF,if_false,if_true];split<;>split<;>omega
   rw[h q b,atm (by rw[Zfz]; exact c),Zjz f c,List.length_reverse,Znu (G4 (by omega) b),i]
  have j:∀ p:Lt→Bool,Z5 p y.reverse=Z5 p y:=fun p=>by unfold Z5; rw[List.filter_reverse,List.length_reverse]
  rw[g,hm,Zl6,j]
theorem Z07{n s v:Nat}{e:Bool}(b:s<n)(a:v<n):mvt n e s ((v+n - 1) % n)=if e then (mvt n e s v+n - 1) % n else (mvt n e s v+1) % n:=by
 have:=G4 (e:=e) b a;rw[Ziu a,Ziu this,Zgs this];unfold mvt;cases e<;>simp only[bF,if_false,if_true]<;>(repeat' split)<;>omega
theorem Z3p{n s v:Nat}{e:Bool}(b:s<n)(a:v<n):mvt n e s ((v+1) % n)=if e then (mvt n e s v+1) % n else (mvt n e s v+n - 1) % n:=by
 have:=G4 (e:=e) b a;rw[Zgs a,Ziu this,Zgs this];unfold mvt;cases e<;>simp only[bF,if_false,if_true]<;>(repeat' split)<;>omega
def NmOk(x:List Lt):Prop:=∀ a,a∈x→a.k=2→1≤a.i∧a.i≤(X7 x / 2:Nat)
section
variable {f:Int} {e:Bool} {y x:List Lt}
theorem Zrj(h:De e y x):X7 x=X7 y:=Zln (fun φ l=>by unfold isX; rw[ap_k]) h
theorem Zyn(h:De e y x):Z3 x=Z3 y:=Zln (fun φ l=>Zli φ l) h
theorem Zw5(I:ValR f y)(h:De e y x)(H:NmOk x):∀ l,l∈x→okR f x l=true:=by
 have z:=Z1e h;have F:=Zrj h;obtain⟨D,s,φ,E,hi,C⟩:=h;have w:=Z8q D E (fun p n=>(C p n).1)
 intro l hm;obtain⟨p,n,rfl⟩:=Zfs hm;rw[D]at n;have G:=G4 (e:=e) E n;have g:=K2 G;have b:=H _ hm;rw[(C p n).1]at b ⊢;generalize at' y (mvt y.length e s p)=a at *;have m:=I.okr _ g;rcases Zrk m with d|d
 ·obtain⟨t,u,v,c4,A,q,r,B⟩:=(Zlk d).1 m;rw[Zam (by omega),Zlk d]
  refine⟨t,u,v,c4,A,q,by rw[z]; exact r,?_⟩
  unfold same at B ⊢;rw[w,← B];apply F0;intro o _;by_cases c:o.k=2
  ·rw[I8 c]
  ·rw[Zam c]
 ·obtain⟨t,u,v,c4,A,q,r⟩:=(Zlw d).1 m;rw[ap_k]at b;have b:=b d;rw[I8 d]at b ⊢;refine(Zlw (show ({ a with i:=φ a.i }:Lt).k=2 from d)).2 ⟨t,u,v,b.1,b.2,?_,?_⟩
  ·unfold Zao at q ⊢;rw[w,← q];apply F0;intro o j;by_cases c:o.k=2
   ·rw[I8 c];have:(φ o.i == φ a.i)=(o.i == a.i):=by
     rw[Bool.eq_iff_iff];simp only[beq_iff_eq];exact⟨hi _ j _ g c d,fun e=>by rw[e]⟩
    simp only[this]
   ·rw[Zam c];have:(o.k == a.k)=false:=by rw[d]; simpa using c
    simp[this]
  ·unfold G9 at r ⊢;rw[w,← r];apply F0;intro o j;by_cases c:o.k=2
   ·rw[I8 c];have:(φ o.i == φ a.i)=(o.i == a.i):=by
     rw[Bool.eq_iff_iff];simp only[beq_iff_eq];exact⟨hi _ j _ g c d,fun e=>by rw[e]⟩
    unfold isX;simp only[this]
   ·rw[Zam c];have:isX o=false:=by unfold isX; simpa using c
    simp[this]
theorem Z0x(u:ValR f y)(h:De e y x)(J:(at' x 0).k=1)(L:NmOk x):∃ ρ S φ,Cj x y e ρ S∧InjI φ y ∧ ∀ v,v<x.length→at' x v=ap φ (at' y (ρ v)):=by
 have z:=Zw5 u h L;have I:=Zrj h;have A:=Zyn h;have B:∀ l,pos x l=pos y l:=fun l=>by
  unfold pos
  congr 1
  exact Zln (p:=fun o=>isP o&&decide (o.g<l.g)) (fun φ o=>by
   by_cases H:o.k=2
   ·rw[I8 H]; rfl
   ·rw[Zam H]) h
 have C:y≠[]:=by
  obtain⟨_,s,_,q,_⟩:=h;intro c;rw[c]at q;exact absurd q (Nat.not_lt_zero _)
 have F:x≠[]:=by
  intro c;have:=h.1;rw[c]at this;exact C (List.length_eq_zero_iff.1 this.symm)
 have wx:=Zza u.lo z J F;obtain⟨O,P,_⟩:=ValR.ranks u.lo z;obtain⟨M,N,_⟩:=ValR.ranks u.lo u.okr;obtain⟨j,s,φ,q,hi,w⟩:=h;have m:∀ v,v<x.length→mvt y.length e s v<y.length:=fun v a=>G4 q (by rw[← j]; exact a)
 have n:∀ v,v<x.length→(at' y (mvt y.length e s v)).k=(at' x v).k:=fun v a=>by
  rw[(w v (by rw[← j]; exact a)).1,ap_k]
 refine⟨mvt y.length e s,mvt y.length e (ivt y.length e s),φ,⟨wx,u.wv C,j.symm,A.symm,fun v a=>by rw[j]; exact m v a,fun v a=>?_,fun v a=>?_,fun v a=>?_,fun v a=>?_,fun v a=>?_,n,fun v a r=>?_,fun v a r=>?_,fun v a r=>?_,fun v a r=>?_⟩,hi,fun v a=>(w v (by rw[← j]; exact a)).1⟩
 ·rw[j]at a ⊢;exact G4 (Zgt q) a
 ·rw[j]at a;exact Zpx q a
 ·rw[j]at a;exact Zmb q a
 ·rw[j]at a ⊢;exact Z07 q a
 ·rw[j]at a ⊢;exact Z3p q a
 ·obtain⟨w1,Q,_,_,_⟩:=wx.oth v a r;obtain⟨n1,n2⟩:=Z6v u.lo z a r;have K:=w _ (by rw[← j]; exact w1)
  have E:=w v (by rw[← j]; exact a)
  have t:=n _ w1;have d:=n v a;rw[Q]at t;rw[r]at d;have D:(at' y (mvt y.length e s (T2 x v x.length 0))).i=(at' y (mvt y.length e s v)).i:=by
   rw[K.1,E.1,I8 t,I8 d]at n2;exact hi _ (K2 (m _ w1)) _ (K2 (m v a)) t d n2
  rcases u.uniq (m v a) d (m _ w1) t D with c|c
  ·exfalso;apply n1;have G:=Zpx (e:=e) q (show T2 x v x.length 0<y.length by rw[← j]; exact w1)
   rw[c,Zpx q (by rw[← j]; exact a)]at G
   exact G.symm
  ·rw[j]at c ⊢;exact c.symm
 ·have d:=n v a;rw[r]at d;unfold smN;rw[(w v (by rw[← j]; exact a)).1,I8 d]
 ·have:=(w v (by rw[← j]; exact a)).2 (by simp[isP,r])
  rw[this];generalize down y (mvt y.length e s v)=b;cases e<;>cases b<;>rfl
 ·have d:=n v a;rw[r]at d;rw[Zor N M (m v a) d,Zor P O a r,B,(w v (by rw[← j]; exact a)).1,Zam (by omega)]
theorem ValR.de(c:ValR f y)(h:De e y x)(i:(at' x 0).k=1)(l:NmOk x):ValR f x:=by
 have g:=Zw5 c h l;have b:=Zrj h;have a:=Zyn h;have j:=h.1;obtain⟨ρ,n,φ,m,_,_⟩:=Z0x c h i l;have d:=Ycu m;have:=c.cyc;rw[← j,← a,d]at this;exact⟨by rw[j]; exact c.len,by rw[b]; exact c.vis,c.lo,c.hi,i,by rw[a]; exact c.evn,g,by rw[this,b]⟩
end
end Go.Known
end
section
namespace Go.Known
open Go Go.AE Go.Proofs
open Go.Plain
def okI(f g a:Int)(ls:List Lt):Prop:=0≤g∧g≤f∧0≤a∧f<40∧a≤inG g ls
instance (f g a:Int) (ls:List Lt):Decidable (okI f g a ls):=by unfold okI; infer_instance
end Go.Known
end
section
namespace Go.Known
open Go Go.AE Go.Proofs
open Go.Plain
def okP(f g a:Int)(ls:List Lt):Prop:=0≤g∧g≤f∧0≤a∧a≤inG g ls
instance (f g a:Int) (ls:List Lt):Decidable (okP f g a ls):=by unfold okP; infer_instance
end Go.Known
end
section
namespace Go.AE
open Go.RowKit
variable {P:Program}
theorem Ye2{g:FuncId}(h:Ctr P g [.sl 1 0 0] ⟨[],2⟩ fun r _=>r=.emp)(b off:Nat):PCall P g [.sl b off 0] .emp:=by
 intro m L;refine⟨h.1,fun W Φ ρ vs w z t D=>?_⟩
 obtain⟨u,rfl⟩:∃ u,vs = #[u]:=by
  have I:=t.1;obtain⟨l⟩:=vs
  match l,I with
  | [u],_=>exact ⟨u,rfl⟩
 have J:R Φ ρ (.sl b off 0) u:=t.2 0 _ _ rfl rfl;cases J with
 | sl _ _ _ a cap l O G y E f=>
  refine(h.2 ⟨w,fun _=>none,Φ⟩ Φ (fun b'=>if b'=1 then some ⟨l.blk,l.sh+off,l.k,l.n⟩ else none) #[.slice a 0 cap] w
   ⟨⟨Below.refl _ _,fun B o q=>(by cases q)⟩,z.pers,fun b x d=>(by cases d),fun b b' x U l l' A=>(by cases A),fun b l j=>?_,fun B c q=>.inl q⟩
   ⟨rfl,fun i x v d p=>?_⟩ (fun b j=>by simp at j)).mono fun e w' F=>?_
  ·show b<2;split at j
   ·omega
   ·cases j
  ·match i,d,p with
   | 0,d,p=>
    cases d; cases p;exact .sl 1 0 0 _ cap ⟨l.blk,l.sh+off,l.k,l.n⟩ rfl (Nat.zero_le _) (by simpa using y) (fun H=>by simpa using E H) f
   | i+1,d,p=>simp at d
  ·obtain⟨u,r,Q,K,ρ',rfl,M,N,s,C,y,S,rfl,rfl⟩:=F;refine⟨u,_,m,Φ,ρ,rfl,Ext.refl _ _,fun b _ _ h=>h,z.below s.base.below,?_,Nat.le_refl _,rfl,rfl⟩
   cases C;exact .emp _
theorem Zh8{g:FuncId}{b0 U:Nat}{m:SMem}{len nx n:Nat}{blk:ABlk}{x:List Nat}{K:AVal→Option ABlk→Prop}(L:∀ q,blk.ren q=blk)
 (h:Ctr P g [.sl 1 0 0] ⟨[],2⟩ fun r sm=>r=.sl 2 0 len∧sm=⟨[(2,blk)],nx⟩) (hK:K (.sl n 0 len) (some blk)):DC P g [.sl b0 U 0] n x m K:=by
 refine⟨_,some blk,?_,hK⟩;show ACalls P g [.sl b0 U 0] (m.mem.less x) [n] fun r m'=>r=.sl n 0 len∧m'=(m.mem.less x).set n blk
 refine⟨h.1,fun W Φ ρ vs w I A af=>?_⟩
 obtain⟨ac,ai⟩:=af n (List.mem_singleton.2 rfl);obtain⟨u0,rfl⟩:∃ u,vs = #[u]:=by
  have hs:=A.1;obtain⟨l⟩:=vs
  match l,hs with
  | [u],_=>exact ⟨u,rfl⟩
 have ak:R Φ ρ (.sl b0 U 0) u0:=A.2 0 _ _ rfl rfl;obtain⟨G,ad,ae,al⟩:∃ G:Rho,G 0=none∧(∀ b l,G b=some l→b<2)∧R Φ G (.sl 1 0 0) u0:=by
  cases ak with
  | sl _ _ _ a cap l t am hn hc Y=>
   refine⟨fun b'=>if b'=1 then some ⟨l.blk,l.sh+U,l.k,l.n⟩ else none,rfl,fun b l L=>?_,.sl 1 0 0 _ cap ⟨l.blk,l.sh+U,l.k,l.n⟩ rfl (Nat.zero_le _) (by simpa using hn) (fun hp=>by simpa using hc hp) Y⟩
   simp only at L;split at L
   ·omega
   ·cases L
 refine(h.2 ⟨w,fun _=>none,Φ⟩ Φ G #[u0] w ⟨⟨Below.refl _ _,fun B o X=>(by cases X)⟩,I.pers,fun b y E=>(by cases E),fun b b' y y' l l' H=>(by cases H),fun b l t=>ae b l t,fun B c X=>.inl X⟩
  ⟨rfl,fun i x v hx hv=>by
   match i,hx,hv with
   | 0,hx,hv=>cases hx; cases hv; exact al
   | i+1,hx,hv=>simp at hx⟩ (fun b L=>by simp at L)).mono fun e w' he=>?_
 obtain⟨u,r,m1,Q,f,e1,hE,hk,z,hR,hn,sm,rfl,rfl,rfl⟩:=he;obtain⟨l1,o1,p1,p2,p3,p4,p5⟩:=z.live 2 blk rfl;have C:∀ b l,ρ b=some l→(if b=n then f 2 else ρ b)=some l:=fun b l t=>by
  rw[if_neg]
  ·exact t
  ·rintro rfl; rw[ac]at t; cases t
 have D:∀ b y,(m.mem.less x).get b=some y→b≠n ∧ ∃ l o,ρ b=some l∧W.Free l.blk∧Q l.blk=none∧w'.heap[l.blk]? = some o∧l.blk<w.heap.size∧BR Φ ρ y l o:=by
  intro b y E;obtain⟨l,o,J,M,g3,g4,g5⟩:=I.live b y E;have O:=D5 g4;refine⟨(fun e=>by rw[e,ac]at J; cases J),l,o,J,M,?_,?_,O,g5⟩
  ·cases aj:Q l.blk with
   | none=>rfl
   | some c=>
    rcases z.newp _ _ aj with H|H
    ·have V:Φ l.blk=some c:=H;rw[g3]at V; cases V
    ·exact absurd H.1 (Nat.not_le.2 O)
  ·rw[z.base.below.block _ O]; exact g4
 refine⟨u,.sl n 0 len,(m.mem.less x).set n blk,Q,fun b=>if b=n then f 2 else ρ b,e1,⟨hE.pers,C⟩,fun b L p h0=>?_,⟨I.base.trans z.base.below,z.pers,fun b y E=>?_,fun b b' y y' l l' J M g3 g4 he=>?_,fun b l t=>?_,fun B c X=>?_⟩,?_,Nat.le_refl _,rfl,rfl⟩
 ·show(if b=n then f 2 else ρ b)=none
  rw[if_neg (fun e=>p (by rw[e]; exact List.mem_singleton.2 rfl))]
  exact h0
 ·simp only[Mem.get_set]at E;by_cases N:b=n
  ·rw[if_pos N]at E;injection E with E
   subst E;refine⟨l1,o1,by show(if b=n then f 2 else ρ b)=some l1; rw[if_pos N]; exact p1,⟨Nat.le_trans I.base.below.size p2.1,?_⟩,p3,p4,?_⟩
   ·cases hg:W.g l1.blk with
    | none=>rfl
    | some o=>exact absurd (D5 (I.base.prot _ _ hg)) (Nat.not_lt.2 p2.1)
   ·rw[← L fun _=>0]at p5
    exact BR.unren (fun b l t=>by rw[hk 0 (show 0<2 by omega) (by simp) ad]at t; cases t) p5
  ·rw[if_neg N]at E;obtain⟨_,l,o,F,q2,q3,q4,S,q6⟩:=D b y E;exact⟨l,o,C _ _ F,q2,q3,q4,q6.ext ⟨hE.pers,C⟩⟩
 ·have j:(if b=n then f 2 else ρ b)=some l:=g3
  have d:(if b'=n then f 2 else ρ b')=some l':=g4
  simp only[Mem.get_set]at J M;by_cases s:b=n
  ·by_cases p:b'=n
   ·rw[s,p]
   ·rw[if_neg p]at M d;rw[if_pos s,p1]at j;injection j with j
    obtain⟨_,l0,o,F,q2,q3,q4,S,q6⟩:=D b' y' M;rw[d]at F; injection F with F
    rw[← F,← he,← j]at S;exact absurd S (Nat.not_lt.2 p2.1)
  ·rw[if_neg s]at J j;obtain⟨_,l0,o,F,q2,q3,q4,S,q6⟩:=D b y J;rw[j]at F; injection F with F
   by_cases p:b'=n
   ·rw[if_pos p,p1]at d;injection d with d
    rw[← F,he,← d]at S;exact absurd S (Nat.not_lt.2 p2.1)
   ·rw[if_neg p]at M d;exact I.inj b b' y y' l l' J M j d he
 ·have ab:(if b=n then f 2 else ρ b)=some l:=t
  show b<m.next;by_cases s:b=n
  ·rw[s]; exact ai
  ·rw[if_neg s]at ab;exact I.fresh b l ab
 ·rcases z.newp B c X with H|H
  ·exact I.newp B c H
  ·refine .inr ⟨Nat.le_trans I.base.below.size H.1,?_⟩;cases hg:W.g B with
   | none=>rfl
   | some o=>exact absurd (D5 (I.base.prot _ _ hg)) (Nat.not_lt.2 H.1)
 ·cases hR with
  | sl _ _ _ a cap l t ag ah aa Z=>exact .sl n 0 len a cap l (by show(if n=n then f 2 else ρ n)=some l; rw[if_pos rfl]; exact t) ag ah aa Z
end Go.AE
end
section
namespace Go.Known
open Go Go.AE Go.Proofs
open Go.Plain
theorem Zz9(d:Nat)(h:d≤10000):PCall Tryz.prog 96 [.int .i64 d] (.int .i64 (bkN d:Nat)):=by
 refine Za0 hm Tryz.func96 Z0f rfl rfl (by simp[X4,AVal.closed]) trivial fun K a=>?_
 have b:(d:Int).tmod 2=((d % 2:Nat):Int):=rfl;unfold bkN at a;by_cases c:d % 2=0
 ·have e:IntKind.i64.wrap ((d:Int)+1)=((d+1:Nat):Int):=by rw[Z1 (by omega) (by omega)]; omega
  rw[if_pos c]at a;simp[b,c,e,-Int.natCast_add,-Int.natCast_emod];exact Z9 a [] (by simp)
 ·have g:IntKind.i64.wrap ((d:Int) - 1)=((d - 1:Nat):Int):=by rw[Z1 (by omega) (by omega)]; omega
  rw[if_neg c]at a;generalize d % 2=z at *;simp[b,c,g];exact Z9 a [] (by simp)
end Go.Known
end
section
namespace Go.Known
open Go Go.AE Go.Proofs
open Go.Plain
theorem Zk9(rows:List (List AVal)):(imV rows).one=true:=by unfold imV; split<;>rfl
theorem Zlh(rows:List (List AVal)):(imV rows).cells=some [imV rows]:=by unfold imV; split<;>rfl
theorem Ybf{l:List Nat}{i:Nat}(h:i<l.length):l.getD i 0=l[i]:=by rw[List.getD,gE h]; rfl
theorem Zfu{l:List Nat}{i:Nat}(h:i<l.length):(Z0 l)[i]? = some [.int .i64 (l.getD i 0:Nat)]:=Zcw (by rw[Ybf h]; exact gE h)
end Go.Known
end
section
namespace Go.Known
open Go Go.AE Go.Proofs
open Go.Plain
theorem Z8r(d:Nat):d ^^^ 1=bkN d:=by
 have a:(d ^^^ 1) / 2=d / 2:=by
  rw[Nat.xor_div_two];simp
 have b:=@Nat.xor_mod_two_eq_one d 1;unfold bkN;split<;>omega
end Go.Known
end
