/- Part 30 of the proof: Sy, Tm, Tx, Wc, Zc, Wg, Wh, Wj, AeEm, Yd, Ye, Yh. -/
import Derived.Test.YtilmpmlkndfbjaaGreatDoorK10
import Derived.Test.YtilmpmlkndfbjaaGreatDoorK11
import Derived.Test.YtilmpmlkndfbjaaGreatDoorK12
import Derived.Test.YtilmpmlkndfbjaaGreatDoorK23
import Derived.Test.YtilmpmlkndfbjaaGreatDoorK24
import Derived.Test.YtilmpmlkndfbjaaGreatDoorK26
import Derived.Test.YtilmpmlkndfbjaaGreatDoorK27
import Derived.Test.YtilmpmlkndfbjaaGreatDoorK29
import Derived.Shelf.SlSortCmp.NoneTotal
import Derived.Test.YtilmpmlkndfbjaaGreatDoorProg
import Derived.Deep.QuietTactic
import Derived.BigQuiet
set_option linter.all false
section
namespace Go.Ab
open Go Go.AE Go.Proofs
open Go.Plain
def nL(x:Fg):Prop:=1≤x.p∧x.p≤9∧0≤x.d∧x.d≤6
instance (x:Fg):Decidable (nL x):=by unfold nL; infer_instance
end Go.Ab
end
section
namespace Go.Ab
open Go Go.AE Go.Proofs
open Go.Plain
@[simp] theorem Yej(id : Nat)(f : Ah → Aa)(get : Nat → Option Ag)(k : Nat)(zero : List Aa)(x : Ah) : Ak id f get (.clear k zero x) = match f x with
 | .sl b off len=>match get b with
  | some (.cells k' els)=>if k'=k∧off+len≤els.length then
   some (Aj,[(b,some (.cells k (els.take off++List.replicate len zero++els.drop (off+len))))])
   else none
  | _=>none
 | .Ai=>some (Aj,[])
 | .emp=>some (Aj,[])
 | _=>none:=rfl
@[simp] theorem Yek(id : Nat)(f : Ah → Aa)(get : Nat → Option Ag)(mx : Bool)(x y : Ah) : Ak id f get (.CK mx [x, y]) = match KG mx (f x) [f y] with
  | some v=>some (v,[])
  | none=>none:=rfl
@[simp] theorem jI(mx : Bool)(k k' : IntKind)(a b : Int) : KG mx (.int k a) [.int k' b] = some (.int k (if mx then (if b > a then b else a) else (if b < a then b else a))) := rfl
end Go.Ab
end
section
namespace Go.Ab
open Go Go.AE Go.Proofs
open Go.Plain
theorem Rg{get:Nat→Option Ag}{S:List Nat}{b k len:Nat}{els:List (List Aa)}(hb:X3 b S=true)(hg:get b=some (.cells k els))(hl:len≤els.length)(hs:∀ row,row∈els.take len → ∀ x,x∈row→W3 (E3 get S) 4 x=some x):EG get S (.sl b 0 len)=.An (els.take len):=by
 have h:E3 get S b=some (.cells k els):=by unfold E3; rw[hb]; exact hg
 have h1:Nat.ble (0+len) els.length=true:=by rw[Nat.zero_add]; exact Nat.ble_eq_true_of_le hl
 unfold EG;rw[W3];simp only[h,h1,cond_true,List.drop_zero,RH hs]
end Go.Ab
end
section
namespace Go.Ab
open Go Go.AE Go.Proofs
open Go.Plain
open Go.ChangeShapes Go.WideShapes Go.RowKit Go.Deep
variable {H:Type} {enc:TypeId×Value→H} {w:World} {base:Nat} {spare:Nat→Bool} {held:Bool}
theorem rM{α:Type} [Inhabited α] (Gs:α→List Aa) (FW:α→List Value) {k:Nat} {TS TE:TypeId} (hu:Tryz.prog.underlying TS=some (.slice TE)) (xO:Tryz.prog.cellsOf TE=k) (hk:0<k)
 (hA:∀ x,(Gs x).length=k) (hB:∀ x,(FW x).length=k)
 (hrow:∀ (Φ:Ao) (ρ:AD) (l:α) (j:Nat) (x:Aa),(Gs l)[j]? = some x → ∃ v,(FW l)[j]? = some v∧v.oneCell'=true∧R Φ ρ x v)
 (Oc:∀ (m:Nat) (cs:List Value) (x:DataW H×List MemPlace),DataW.trod enc Tryz.prog w 0 (fun _=>true) held m TE cs=some x → ∃ l:α,cs=FW l)
 {n:Nat} {v:Value} {x:DataW H×List MemPlace} (h:DataW.trod enc Tryz.prog w 0 (fun _=>true) held n TS [v]=some x):∃ ls:List α,∀ ρ,R (Ei w) ρ (.An (ls.map Gs)) v:=by
 have hf:∀ l:α,∃ v0,(FW l)[0]? = some v0:=fun l=>⟨(FW l)[0]'(by rw[hB]; exact hk),gE _⟩
 rcases open_slice hu h with⟨h1,_⟩|⟨a,len,cap,m,n',D,Pl,h1,_,hlc,_,hm,_,hel⟩
 ·cases h1;exact⟨[],fun ρ=>.CQ _ _ fun hp=>absurd hp (by omega)⟩
 ·cases h1;simp only[if_true]at hm;subst hm;rw[xO]at hel;have hL:∀ i,∃ l:α,i<len→w.cells? 0 (a.add (i*k)) k=some (FW l):=fun i=>by
   by_cases hi:i<len
   ·obtain⟨cs',g1,g2⟩:=hel i (by omega)
    obtain⟨l,rfl⟩:=Oc _ _ _ g2;exact⟨l,fun _=>g1⟩
   ·exact⟨default,fun h=>absurd h hi⟩
  obtain⟨L,hL⟩:=Classical.axiomOfChoice hL;rcases Nat.eq_zero_or_pos len with h0|h0
  ·subst h0;refine⟨[],fun ρ=>.CQ _ _ fun hp=>?_⟩
   obtain⟨cs',g1,g2⟩:=hel 0 (by omega)
   obtain⟨l,rfl⟩:=Oc _ _ _ g2;obtain⟨v0,hv0⟩:=hf l;have hh:=(pP g1 0 hk).1;have e1:(a.add (0*k)).add 0=a:=by simp[Addr.add]
   rw[e1,hv0]at hh;have hsp:=oO hh;obtain⟨ab,ao,asp⟩:=a;simp only at hsp;subst hsp;exact⟨_,_,rfl⟩
  have hcell:∀ i j,i<len→j<k→w.cell? ((a.add (i*k)).add j)=(FW (L i))[j]?:=fun i j hi hj=>(pP (hL i hi) j hj).1
  obtain⟨v0,hv0⟩:=hf (L 0);have hc0:=hcell 0 0 h0 hk;rw[hv0]at hc0;have hsp:a.spot=none:=by
   have e1:(a.add (0*k)).add 0=a:=by simp[Addr.add]
   rw[e1]at hc0;exact oO hc0
  have hblk:∃ c e fz,w.heap[a.block]? = some (.cells c e fz):=by
   obtain⟨c,e,fz,g1,_⟩:=rL hc0;rw[Xf,Xf]at g1;exact⟨c,e,fz,g1⟩
  obtain⟨c,e,fz,CM⟩:=hblk;have hat:∀ i j v,i<len→j<k→(FW (L i))[j]? = some v→c[a.off+i*k+j]? = some v:=fun i j v hi hj hv=>by
   have h2:=hcell i j hi hj;rw[hv]at h2;obtain⟨c',e',fz',g1,g2⟩:=rL h2;rw[Xf,Xf,CM]at g1;cases g1;rw[pO,pO]at g2;exact g2
  have hget:∀ (i:Nat) (row:List Aa),(((List.range len).map L).map Gs)[i]? = some row→i<len∧row=Gs (L i):=fun i row hi=>by
   rw[List.map_map,gM]at hi;by_cases hil:i<len
   ·rw[List.getElem?_range hil]at hi;cases hi;exact⟨hil,rfl⟩
   ·rw[List.getElem?_eq_none (by simpa using hil)]at hi
    cases hi
  have hjk:∀ (l:α) (j:Nat) (x:Aa),(Gs l)[j]? = some x→j<k:=fun l j x hx=>by rw[← hA l]; exact(gS.1 hx).1
  refine⟨(List.range len).map L,fun ρ=>?_⟩
  obtain⟨ab,ao,asp⟩:=a;simp only at hsp CM hat;subst hsp;have hlen:(((List.range len).map L).map Gs).length=len:=by simp
  have:=R.An (Φ:=Ei w) (ρ:=ρ) (((List.range len).map L).map Gs) ab ao k _ c (fun i j=>((FW (L i))[j]?).getD (.bool false)) (fun e=>by rw[e]at hlen; simp at hlen; omega) (by rw[hlen]; exact hlc)
   (by unfold Ei; rw[CM]) (fun i row hi=>by obtain⟨_,rfl⟩:=hget i row hi; exact hA _)
   (fun i row j x hi hj=>by
     obtain⟨hil,rfl⟩:=hget i row hi;obtain⟨v,g1,g2,_⟩:=hrow (Ei w) ρ (L i) j x hj;rw[g1];exact⟨hat i j v hil (hjk _ j x hj) g1,g2⟩)
   (fun i row j x hi hj=>by
     obtain⟨hil,rfl⟩:=hget i row hi;obtain⟨v,g1,_,g3⟩:=hrow (Ei w) ρ (L i) j x hj;rw[g1];exact g3)
  rw[hlen]at this;exact this
end Go.Ab
end
section
namespace Go.Ab
open Go.Plain
theorem wL{f:Int}{ls:List Lt}(hlo:0≤f)(hok:∀ l,l∈ls→Gq f ls l=true)(hf:(at' ls 0).k=1)(h0:ls≠[]):Wv ls:=by
 obtain⟨_,_,hc⟩:=Co.Fa hlo hok;have hpos:0<ls.length:=by grind
 refine⟨?_,fun v hv hk=>(Yg (hok _ (F7 hv))).resolve_right hk,fun v hv hk=>?_⟩
 ·rw[← HI];exact List.length_pos_of_mem (Bb.2 ⟨hpos,by simp[AT,hf]⟩)
 ·obtain⟨_,_,j,_,_,_,j1,j2,j3,j4,j5,j6,j7,j8⟩:=OC hc hv (by simp[Bv,hk])
  obtain⟨_,_,j',_,_,_,g1,g2,g3,g4,g5,g6,_,g8⟩:=OC hc j1 j3;rw[j8];have hj:j'=v:=by grind
  exact⟨j1,by simpa[Bv]using j3,by rw[g8,hj],j5,j6⟩
theorem xm{f:Int}{ls:List Lt}(hlo:0≤f)(hok:∀ l,l∈ls→Gq f ls l=true){v:Nat}(hv:v<ls.length)(hk:(at' ls v).k=2):Q9 ls v ls.length 0≠v∧(at' ls (Q9 ls v ls.length 0)).i=(at' ls v).i:=by
 obtain⟨_,_,hc⟩:=Co.Fa hlo hok;obtain⟨_,_,j,_,_,_,j1,j2,j3,j4,j5,j6,j7,j8⟩:=OC hc hv (by simp[Bv,hk])
 grind
theorem sq{e:Bool}{y x:List Lt}{s:Nat}{φ:Int→Int}(hl:x.length=y.length)(hs:s<y.length)(h1:∀ p,p<y.length→at' x p=ap φ (at' y (Di y.length e s p)))(q:Lt→Bool):Z7 q x=Z7 (fun a=>q (ap φ a)) y:=by
 have hm:∀ l:List Lt,Z7 q (l.map (ap φ))=Z7 (fun a=>q (ap φ a)) l:=fun l=>Wd q (ap φ) l
 cases e with
 | true=>
  have hx:x=(Em s y).map (ap φ):=by
   refine SY (by rw[lM,Ng,hl]) fun q hq=>?_
   rw[hl]at hq;rw[h1 q hq,Rs (by rw[Ng]; exact hq),Wp hs hq]
  rw[hx,hm,VS]
 | false=>
  have hx:x=(Em (y.length - 1 - s) y.reverse).map (ap φ):=by
   refine SY (by rw[lM,Ng,List.length_reverse,hl]) fun q hq=>?_
   rw[hl]at hq;have hs':y.length - 1 - s<y.reverse.length:=by grind
   have EI:q<y.reverse.length:=by grind
   have e1:y.length - 1 - Di y.length true (y.length - 1 - s) q=Di y.length false s q:=by
    unfold Di
    grind
   rw[h1 q hq,Rs (by rw[Ng]; exact EI),Wp hs' EI,List.length_reverse,rF (MM (by omega) hq),e1]
  have hr:∀ p:Lt→Bool,Z7 p y.reverse=Z7 p y:=fun p=>by unfold Z7; grind
  rw[hx,hm,VS,hr]
theorem zU{n s v:Nat}{e:Bool}(hs:s<n)(hv:v<n):Di n e s ((v+n - 1) % n)=if e then (Di n e s v+n - 1) % n else (Di n e s v+1) % n:=by
 have:=MM (e:=e) hs hv;rw[RI hv,RI this,Oi this];unfold Di
 grind
theorem Z8j{n s v:Nat}{e:Bool}(hs:s<n)(hv:v<n):Di n e s ((v+1) % n)=if e then (Di n e s v+1) % n else (Di n e s v+n - 1) % n:=by
 have:=MM (e:=e) hs hv;rw[Oi hv,RI this,Oi this];unfold Di
 grind
def Lq(x:List Lt):Prop:=∀ a,a∈x→a.k=2→1≤a.i∧a.i≤(U0 x / 2:Nat)
section
variable {f:Int} {e:Bool} {y x:List Lt}
theorem Z45(h:De e y x):U0 x=U0 y:=WS (fun φ l=>by unfold Bv; rw[HP]) h
theorem qT(h:De e y x):Z5 x=Z5 y:=WS (fun φ l=>wJ φ l) h
theorem pL(hy:Co f y)(h:De e y x)(hr:Lq x):∀ l,l∈x→Gq f x l=true:=by
 have hin:=yD h;obtain⟨hl,s,φ,hs,hi,h1⟩:=h;have hc:=sq hl hs (fun p hp=>(h1 p hp).1)
 intro l hm;obtain⟨p,hp,rfl⟩:=Xy hm;rw[hl]at hp;have hq:=MM (e:=e) hs hp;have hma:=F7 hq;have hri:=hr _ hm;rw[(h1 p hp).1]at hri ⊢;generalize at' y (Di y.length e s p)=a at *;have hok:=hy.Qk _ hma;rcases Yg hok with hk|hk
 ·obtain⟨c1,c2,c3,c4,c5,c6,c7,c8⟩:=(bY hk).1 hok;rw[MV (by omega),bY hk]
  refine⟨c1,c2,c3,c4,c5,c6,by rw[hin]; exact c7,?_⟩
  unfold same at c8 ⊢;rw[hc,← c8];apply B9;intro o _;by_cases ho:o.k=2
  ·rw[Iu ho]
  ·rw[MV ho]
 ·obtain⟨c1,c2,c3,c4,c5,c6,c7⟩:=(VX hk).1 hok;rw[HP]at hri;have hri:=hri hk;rw[Iu hk]at hri ⊢;refine(VX (show ({ a with i:=φ a.i }:Lt).k=2 from hk)).2 ⟨c1,c2,c3,hri.1,hri.2,?_,?_⟩
  ·unfold MU at c6 ⊢;rw[hc,← c6];apply B9;intro o ho2;by_cases ho:o.k=2
   ·rw[Iu ho];have:(φ o.i == φ a.i)=(o.i == a.i):=by
     rw[Bool.eq_iff_iff];simp only[beq_iff_eq];exact⟨hi _ ho2 _ hma ho hk,fun e=>by rw[e]⟩
    simp only[this]
   ·rw[MV ho]
    grind
  ·unfold Ir at c7 ⊢;rw[hc,← c7];apply B9;intro o ho2;by_cases ho:o.k=2
   ·rw[Iu ho];have:(φ o.i == φ a.i)=(o.i == a.i):=by
     rw[Bool.eq_iff_iff];simp only[beq_iff_eq];exact⟨hi _ ho2 _ hma ho hk,fun e=>by rw[e]⟩
    unfold Bv;simp only[this]
   ·rw[MV ho];have:Bv o=false:=by unfold Bv; simpa using ho
    simp[this]
theorem Z7e(hy:Co f y)(h:De e y x)(hf:(at' x 0).k=1)(hr:Lq x):∃ ρ σ φ,Cj x y e ρ σ∧Lp φ y ∧ ∀ v,v<x.length→at' x v=ap φ (at' y (ρ v)):=by
 have hok:=pL hy h hr;have hpas:=qT h;have hpos:∀ l,pos x l=pos y l:=fun l=>by
  unfold pos
  congr 1
  exact WS (p:=fun o=>AT o&&decide (o.g<l.g)) (fun φ o=>by
   by_cases ho:o.k=2
   ·rw[Iu ho]; rfl
   ·rw[MV ho]) h
 have hy0:y≠[]:=by
  obtain⟨_,s,_,hs,_⟩:=h
  grind
 have hx0:x≠[]:=by
  intro c;have:=h.1
  grind
 have wx:=wL hy.lo hok hf hx0;obtain⟨r1,r2,_⟩:=Co.Fa hy.lo hok;obtain⟨q1,q2,_⟩:=Co.Fa hy.lo hy.Qk;obtain⟨hl,s,φ,hs,hi,h1⟩:=h;have hrl:∀ v,v<x.length→Di y.length e s v<y.length:=fun v hv=>MM hs (by rw[← hl]; exact hv)
 have hk1:∀ v,v<x.length→(at' y (Di y.length e s v)).k=(at' x v).k:=fun v hv=>by
  rw[(h1 v (by rw[← hl]; exact hv)).1,HP]
 refine⟨Di y.length e s,Di y.length e (PC y.length e s),φ,⟨wx,hy.wv hy0,hl.symm,hpas.symm,fun v hv=>by rw[hl]; exact hrl v hv,fun v hv=>?_,fun v hv=>?_,fun v hv=>?_,fun v hv=>?_,fun v hv=>?_,hk1,fun v hv hk=>?_,fun v hv hk=>?_,fun v hv hk=>?_,fun v hv hk=>?_⟩,hi,fun v hv=>(h1 v (by rw[← hl]; exact hv)).1⟩
 ·rw[hl]at hv ⊢;exact MM (Zzw hs) hv
 ·rw[hl]at hv;exact cA hs hv
 ·rw[hl]at hv;exact Z52 hs hv
 ·rw[hl]at hv ⊢;exact zU hs hv
 ·rw[hl]at hv ⊢;exact Z8j hs hv
 ·obtain⟨w1,w2,_,_,_⟩:=wx.CX v hv hk;obtain⟨n1,n2⟩:=xm hy.lo hok hv hk;have hj:=h1 _ (by rw[← hl]; exact w1)
  have Hf:=h1 v (by rw[← hl]; exact hv)
  have hkj:=hk1 _ w1;have hkv:=hk1 v hv;rw[w2]at hkj;rw[hk]at hkv;have hid:(at' y (Di y.length e s (Q9 x v x.length 0))).i=(at' y (Di y.length e s v)).i:=by
   rw[hj.1,Hf.1,Iu hkj,Iu hkv]at n2;exact hi _ (F7 (hrl _ w1)) _ (F7 (hrl v hv)) hkj hkv n2
  rcases hy.uniq (hrl v hv) hkv (hrl _ w1) hkj hid with c|c
  ·exfalso;apply n1;have e1:=cA (e:=e) hs (show Q9 x v x.length 0<y.length by rw[← hl]; exact w1)
   rw[c,cA hs (by rw[← hl]; exact hv)]at e1
   exact e1.symm
  grind
 ·have hkv:=hk1 v hv;rw[hk]at hkv;unfold Qs;rw[(h1 v (by rw[← hl]; exact hv)).1,Iu hkv]
 ·have:=(h1 v (by rw[← hl]; exact hv)).2 (by simp[AT,hk])
  grind
 ·have hkv:=hk1 v hv;rw[hk]at hkv;rw[cS q2 q1 (hrl v hv) hkv,cS r2 r1 hv hk,hpos,(h1 v (by rw[← hl]; exact hv)).1,MV (by omega)]
theorem Co.de(hy:Co f y)(h:De e y x)(hf:(at' x 0).k=1)(hr:Lq x):Co f x:=by
 have hok:=pL hy h hr;have hvis:=Z45 h;have hpas:=qT h;have hl:=h.1;obtain⟨ρ,σ,φ,hc,_,_⟩:=Z7e hy h hf hr;have iZ:=s8 hc;have:=hy.FX;rw[← hl,← hpas,iZ]at this;exact⟨by rw[hl]; exact hy.len,by rw[hvis]; exact hy.vis,hy.lo,hy.hi,hf,by rw[hpas]; exact hy.xK,hok,by rw[this,hvis]⟩
end
end Go.Ab
end
section
namespace Go.Ab
open Go Go.AE Go.Proofs
open Go.Plain
def xR(f g a:Int)(ls:List Lt):Prop:=0≤g∧g≤f∧0≤a∧f<40∧a≤CS g ls
instance (f g a:Int) (ls:List Lt):Decidable (xR f g a ls):=by unfold xR; infer_instance
end Go.Ab
end
section
namespace Go.Ab
open Go Go.AE Go.Proofs
open Go.Plain
def xS(f g a:Int)(ls:List Lt):Prop:=0≤g∧g≤f∧0≤a∧a≤CS g ls
instance (f g a:Int) (ls:List Lt):Decidable (xS f g a ls):=by unfold xS; infer_instance
end Go.Ab
end
section
namespace Go.Ab
open Go Go.AE Go.Proofs
open Go.Plain
attribute [local simp] Z4j Z4a yt Z6g Z3p yp Z6k Z70 Z4g yg Z85 vp ze qi yL Z5k Z8a
def Vc(els:List (List Aa))(off len:Nat)(xs:List (List Aa)):List (List Aa):=els.take off++xs.take (min xs.length len)++els.drop (off+min xs.length len)
theorem Yy(id:Nat)(f:Ah→Aa)(get:Nat→Option Ag)(k:Nat)(x y:Ah):Ak id f get (.copy k x y)=match f x,T7 get k (f y)with
 | .sl b off len,some xs=>match get b with
  | some (.cells k' els)=>if k'=k∧off+len≤els.length then
   some (.int .i64 (min xs.length len:Nat),[(b,some (.cells k (Vc els off len xs)))])
   else none
  | _=>none
 | _,_=>none:=rfl
end Go.Ab
end
section
namespace Go.AE
open Go.RowKit
variable {P:Program}
theorem Yen{g:FuncId}(h:Cc P g [.sl 1 0 0] ⟨[],2⟩ fun r _=>r=.emp)(b off:Nat):AS P g [.sl b off 0] .emp:=by
 intro m av;refine⟨h.1,fun W Φ ρ vs w hr ha Ch=>?_⟩
 obtain⟨u,rfl⟩:∃ u,vs = #[u]:=by
  have hs:=ha.1;obtain⟨l⟩:=vs
  match l,hs with
  | [u],_=>exact ⟨u,rfl⟩
 have hu:R Φ ρ (.sl b off 0) u:=ha.2 0 _ _ rfl rfl;cases hu with
 | sl _ _ _ a cap l hl hle hn hc hav'=>
  refine(h.2 ⟨w,fun _=>none,Φ⟩ Φ (fun b'=>if b'=1 then some ⟨l.blk,l.sh+off,l.k,l.n⟩ else none) #[.slice a 0 cap] w
   ⟨⟨Below.refl _ _,fun B o hB=>(by cases hB)⟩,hr.AX,fun b x hx=>(by cases hx),fun b b' x x' l l' h1=>(by cases h1),fun b l hb=>?_,fun B c hB=>.inl hB⟩
   ⟨rfl,fun i x v hx hv=>?_⟩ (fun b hb=>by simp at hb)).mono fun e w' he=>?_
  ·show b<2;split at hb
   ·omega
   ·cases hb
  ·match i,hx,hv with
   | 0,hx,hv=>
    cases hx; cases hv;exact .sl 1 0 0 _ cap ⟨l.blk,l.sh+off,l.k,l.n⟩ rfl (Nat.zero_le _) (by simpa using hn) (fun hp=>by simpa using hc hp) hav'
   | i+1,hx,hv=>simp at hx
  ·obtain⟨u,r,m',Am,ρ',rfl,hE,hk,hr',hR,hn,sm,rfl,rfl⟩:=he;refine⟨u,_,m,Φ,ρ,rfl,Ext.refl _ _,fun b _ _ h=>h,hr.below hr'.base.below,?_,lR _,rfl,rfl⟩
   cases hR;exact .emp _
theorem QH{g:FuncId}{b0 f0:Nat}{m:Ac}{len nx n:Nat}{blk:Ag}{x:List Nat}{K:Aa→Option Ag→Prop}(hb:∀ q,blk.AA q=blk)
 (h:Cc P g [.sl 1 0 0] ⟨[],2⟩ fun r sm=>r=.sl 2 0 len∧sm=⟨[(2,blk)],nx⟩) (hK:K (.sl n 0 len) (some blk)):DC P g [.sl b0 f0 0] n x m K:=by
 refine⟨_,some blk,?_,hK⟩;show Az P g [.sl b0 f0 0] (m.mem.less x) [n] fun r m'=>r=.sl n 0 len∧m'=(m.mem.less x).set n blk
 refine⟨h.1,fun W Φ ρ vs w hr hargs Ch=>?_⟩
 obtain⟨hn0,hnn⟩:=Ch n (List.mem_singleton.2 rfl);obtain⟨u0,rfl⟩:∃ u,vs = #[u]:=by
  have hs:=hargs.1;obtain⟨l⟩:=vs
  match l,hs with
  | [u],_=>exact ⟨u,rfl⟩
 have hu0:R Φ ρ (.sl b0 f0 0) u0:=hargs.2 0 _ _ rfl rfl;obtain⟨Da,hρ0,hρ1,hu1⟩:∃ Da:AD,Da 0=none∧(∀ b l,Da b=some l→b<2)∧R Φ Da (.sl 1 0 0) u0:=by
  cases hu0 with
  | sl _ _ _ a cap l hl hle hn hc hav'=>
   refine⟨fun b'=>if b'=1 then some ⟨l.blk,l.sh+f0,l.k,l.n⟩ else none,rfl,fun b l hb=>?_,.sl 1 0 0 _ cap ⟨l.blk,l.sh+f0,l.k,l.n⟩ rfl (Nat.zero_le _) (by simpa using hn) (fun hp=>by simpa using hc hp) hav'⟩
   simp only at hb;split at hb
   ·omega
   ·cases hb
 refine(h.2 ⟨w,fun _=>none,Φ⟩ Φ Da #[u0] w ⟨⟨Below.refl _ _,fun B o hB=>(by cases hB)⟩,hr.AX,fun b y hy=>(by cases hy),fun b b' y y' l l' h1=>(by cases h1),fun b l hl=>hρ1 b l hl,fun B c hB=>.inl hB⟩
  ⟨rfl,fun i x v hx hv=>by
   match i,hx,hv with
   | 0,hx,hv=>cases hx; cases hv; exact hu1
   | i+1,hx,hv=>simp at hx⟩ (fun b hb=>by simp at hb)).mono fun e w' he=>?_
 obtain⟨u,r,m1,Am,ρ1,e1,hE,hk,hr',hR,hn,sm,rfl,rfl,rfl⟩:=he;obtain⟨l1,o1,p1,p2,p3,p4,p5⟩:=hr'.live 2 blk rfl;have hext:∀ b l,ρ b=some l→(if b=n then ρ1 2 else ρ b)=some l:=fun b l hl=>by
  rw[iN]
  ·exact hl
  ·rintro rfl; rw[hn0]at hl; cases hl
 have hold:∀ b y,(m.mem.less x).get b=some y→b≠n ∧ ∃ l o,ρ b=some l∧W.Cd l.blk∧Am l.blk=none∧w'.heap[l.blk]? = some o∧l.blk<w.heap.size∧BR Φ ρ y l o:=by
  intro b y hy;obtain⟨l,o,g1,g2,g3,g4,g5⟩:=hr.live b y hy;have hlt:=G4 g4;refine⟨(fun e=>by rw[e,hn0]at g1; cases g1),l,o,g1,g2,?_,?_,hlt,g5⟩
  ·cases hpz:Am l.blk with
   | none=>rfl
   | some c=>
    rcases hr'.By _ _ hpz with h1|h1
    ·have h1':Φ l.blk=some c:=h1;rw[g3]at h1'; cases h1'
    ·exact absurd h1.1 (Nat.not_le.2 hlt)
  ·rw[hr'.base.below.block _ hlt]; exact g4
 refine⟨u,.sl n 0 len,(m.mem.less x).set n blk,Am,fun b=>if b=n then ρ1 2 else ρ b,e1,⟨hE.AX,hext⟩,fun b hb Cq h0=>?_,⟨hr.base.trans hr'.base.below,hr'.AX,fun b y hy=>?_,fun b b' y y' l l' g1 g2 g3 g4 he=>?_,fun b l hl=>?_,fun B c hB=>?_⟩,?_,lR _,rfl,rfl⟩
 ·show(if b=n then ρ1 2 else ρ b)=none
  rw[iN (fun e=>Cq (by rw[e]; exact List.mem_singleton.2 rfl))]
  exact h0
 ·simp only[Mem.Ax]at hy;by_cases hbn:b=n
  ·rw[iP hbn]at hy;injection hy with hy
   subst hy;refine⟨l1,o1,by show(if b=n then ρ1 2 else ρ b)=some l1; rw[iP hbn]; exact p1,⟨Nat.le_trans hr.base.below.size p2.1,?_⟩,p3,p4,?_⟩
   ·cases hg:W.g l1.blk with
    | none=>rfl
    | some o=>exact absurd (G4 (hr.base.BU _ _ hg)) (Nat.not_lt.2 p2.1)
   ·rw[← hb fun _=>0]at p5
    exact BR.BD (fun b l hl=>by rw[hk 0 (show 0<2 by omega) (by simp) hρ0]at hl; cases hl) p5
  ·rw[iN hbn]at hy;obtain⟨_,l,o,q1,q2,q3,q4,q5,q6⟩:=hold b y hy;exact⟨l,o,hext _ _ q1,q2,q3,q4,q6.ext ⟨hE.AX,hext⟩⟩
 ·have g3':(if b=n then ρ1 2 else ρ b)=some l:=g3
  have g4':(if b'=n then ρ1 2 else ρ b')=some l':=g4
  simp only[Mem.Ax]at g1 g2;by_cases Bg:b=n
  ·by_cases Cq:b'=n
   ·rw[Bg,Cq]
   ·rw[iN Cq]at g2 g4';rw[iP Bg,p1]at g3';injection g3' with g3'
    obtain⟨_,l0,o,q1,q2,q3,q4,q5,q6⟩:=hold b' y' g2;rw[g4']at q1; injection q1 with q1
    rw[← q1,← he,← g3']at q5;exact absurd q5 (Nat.not_lt.2 p2.1)
  ·rw[iN Bg]at g1 g3';obtain⟨_,l0,o,q1,q2,q3,q4,q5,q6⟩:=hold b y g1;rw[g3']at q1; injection q1 with q1
   by_cases Cq:b'=n
   ·rw[iP Cq,p1]at g4';injection g4' with g4'
    rw[← q1,he,← g4']at q5;exact absurd q5 (Nat.not_lt.2 p2.1)
   ·rw[iN Cq]at g2 g4';exact hr.inj b b' y y' l l' g1 g2 g3' g4' he
 ·have hl':(if b=n then ρ1 2 else ρ b)=some l:=hl
  show b<m.next;by_cases Bg:b=n
  ·rw[Bg]; exact hnn
  ·rw[iN Bg]at hl';exact hr.fresh b l hl'
 ·rcases hr'.By B c hB with h1|h1
  ·exact hr.By B c h1
  ·refine .inr ⟨Nat.le_trans hr.base.below.size h1.1,?_⟩;cases hg:W.g B with
   | none=>rfl
   | some o=>exact absurd (G4 (hr.base.BU _ _ hg)) (Nat.not_lt.2 h1.1)
 ·cases hR with
  | sl _ _ _ a cap l hl hlc hn2 hcap hav1=>exact .sl n 0 len a cap l (by show(if n=n then ρ1 2 else ρ n)=some l; rw[iP rfl]; exact hl) hlc hn2 hcap hav1
end Go.AE
end
section
namespace Go.Ab
open Go Go.AE Go.Proofs
open Go.Plain
theorem Z5l(d:Nat)(hd:d≤10000):AS Tryz.prog 96 [.int .i64 d] (.int .i64 (Dc d:Nat)):=by
 refine Lx hm Tryz.func96 xd rfl rfl (by simp[W9,Aa.closed]) trivial fun K hK=>?_
 have htm:(d:Int).tmod 2=((d % 2:Nat):Int):=rfl;unfold Dc at hK;by_cases hp:d % 2=0
 ·have hw1:=Y1 ((d:Int)+1) ((d+1:Nat):Int);rw[iP hp]at hK;simp[htm,hp,hw1,-Int.natCast_add,-Int.natCast_emod];exact Z6 hK [] (by simp)
 ·have hw2:=Y1 ((d:Int) - 1) ((d - 1:Nat):Int);rw[iN hp]at hK;generalize d % 2=z at *;simp[htm,hp,hw2];exact Z6 hK [] (by simp)
end Go.Ab
end
section
namespace Go.Ab
open Go Go.AE Go.Proofs
open Go.Plain
theorem SF(rows:List (List Aa)):(Bx rows).one=true:=by unfold Bx; split<;>rfl
theorem RO(rows:List (List Aa)):(Bx rows).cells=some [Bx rows]:=by unfold Bx; split<;>rfl
theorem Z5j{l:List Nat}{i:Nat}(h:i<l.length):l.getD i 0=l[i]:=by rw[List.getD,gE h]; rfl
theorem MI{l:List Nat}{i:Nat}(h:i<l.length):(Z0 l)[i]? = some [.int .i64 (l.getD i 0:Nat)]:=Lc (by rw[Z5j h]; exact gE h)
end Go.Ab
end
section
namespace Go.Ab
open Go Go.AE Go.Proofs
open Go.Plain
theorem Z5h(d:Nat):d ^^^ 1=Dc d:=by
 have h1:(d ^^^ 1) / 2=d / 2:=by
  rw[Nat.xor_div_two];simp
 have h2:=@Nat.xor_mod_two_eq_one d 1;unfold Dc;split<;>omega
end Go.Ab
end
