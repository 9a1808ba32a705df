/- Part 13 of the proof: AeMemo, AeMe. -/
import Derived.Test.YtggclbeocekgkaaGreatDoorP8
import Derived.Test.YtggclbeocekgkaaGreatDoorP12
set_option linter.all false
section
namespace Go.AE
open Go.RowKit
mutual
def Aa.closed:Aa→Bool
 | .bool _ | .int _ _ | .str _ | .nilPtr | .Ae | .emp | .Av | .nilFunc | .nilIface | .bot=>true
 | .Aj els=>U3 els
 | .agg cs=>X8 cs
 | .tuple cs=>X8 cs
 | .func _ a b=>X8 a&&X8 b
 | .AW els _ _=>U3 els
 | _=>false
def X8:List Aa→Bool
 | []=>true
 | x :: r=>x.closed&&X8 r
def U3:List (List Aa)→Bool
 | []=>true
 | x :: r=>X8 x&&U3 r
end
theorem MN:∀ {l:List Aa} {i:Nat} {x:Aa},X8 l=true→l[i]? = some x→x.closed=true
 | [],i,x,_,h=>by simp at h
 | y :: r,i,x,h,hx=>by
  simp only[X8,bA]at h;cases i with
  | zero=>simp only[List.getElem?_cons_zero,oI]at hx; subst hx; exact h.1
  | succ i=>simp only[List.getElem?_cons_succ]at hx; exact MN h.2 hx
theorem Yw:∀ {l:List (List Aa)} {i:Nat} {x:List Aa},U3 l=true→l[i]? = some x→X8 x=true
 | [],i,x,_,h=>by simp at h
 | y :: r,i,x,h,hx=>by
  simp only[U3,bA]at h;cases i with
  | zero=>simp only[List.getElem?_cons_zero,oI]at hx; subst hx; exact h.1
  | succ i=>simp only[List.getElem?_cons_succ]at hx; exact Yw h.2 hx
theorem R.closed{Φ:Ao}{ρ ρ':AD}{x:Aa}{v:Value}(h:R Φ ρ x v)(hc:x.closed=true):R Φ ρ' x v:=by
 induction h with
 | bool b=>exact .bool b
 | int k n=>exact .int k n
 | str s=>exact .str s
 | ptr b i j l h=>simp[Aa.closed]at hc
 | AW els i j B o k c f hB hk Ck _ ih=>
  simp only[Aa.closed]at hc;exact .AW els i j B o k c f hB hk Ck fun i row j x h1 h2=>ih i row j x h1 h2 (MN (Yw hc h1) h2)
 | nilPtr=>exact .nilPtr
 | Ae=>exact .Ae
 | emp a=>exact .emp a
 | sl b off len a cap l h hl hn Ck ha=>simp[Aa.closed]at hc
 | BS a cap h=>exact .BS a cap h
 | Aj els B o k cap c f hne hcap hB hk Ck _ ih=>
  simp only[Aa.closed]at hc;exact .Aj els B o k cap c f hne hcap hB hk Ck fun i row j x h1 h2=>ih i row j x h1 h2 (MN (Yw hc h1) h2)
 | map b l h=>simp[Aa.closed]at hc
 | Av=>exact .Av
 | func fn fs cs vf vc hf hcs _ _ ih1 ih2=>
  simp only[Aa.closed,bA]at hc;exact .func fn fs cs vf vc hf hcs (fun i x v h1 h2=>ih1 i x v h1 h2 (MN hc.1 h1)) (fun i x v h1 h2=>ih2 i x v h1 h2 (MN hc.2 h1))
 | nilFunc=>exact .nilFunc
 | FH b l h=>simp[Aa.closed]at hc
 | atLeast n c h=>simp[Aa.closed]at hc
 | iface t x v _ ih=>simp[Aa.closed]at hc
 | nilIface=>exact .nilIface
 | agg cs vs hs _ ih=>
  simp only[Aa.closed]at hc;exact .agg cs vs hs fun i x v h1 h2=>ih i x v h1 h2 (MN hc h1)
 | tuple cs vs hs _ ih=>
  simp only[Aa.closed]at hc;exact .tuple cs vs hs fun i x v h1 h2=>ih i x v h1 h2 (MN hc h1)
 | bot v=>exact .bot v
theorem RL.closed{Φ:Ao}{ρ ρ':AD}{xs:List Aa}{vs:Array Value}(h:RL Φ ρ xs vs)(hc:X8 xs=true):RL Φ ρ' xs vs:=
 ⟨h.1,fun i x v hx hv=>(h.2 i x v hx hv).closed (MN hc hx)⟩
theorem w9{P:Program}{g:FuncId}{args:List Aa}{v:Aa}{m0:Mem}{K:Aa→Mem→Prop}(hca:X8 args=true)(Pj:v.closed=true)(h0:∀ c,m0.get c=none)(h1:0<m0.next)
 (h:Au P g args m0 [0] K) (hK:∀ r m',K r m'→r=v) (m:Mem) (av:List Nat):Au P g args m av fun r m'=>r=v∧m'=m:=by
 refine⟨h.1,fun W Φ ρ vs w hr ha CN=>?_⟩
 let W0:AA:=⟨w,fun _=>none,Φ,hr.Ds⟩
 have hr0:Rel W0 Φ (fun _=>none) m0 w:=
  ⟨⟨Below.refl _ _,fun B o hB=>(by cases hB)⟩,hr.Bn,fun b x hx=>(by rw[h0 b]at hx; cases hx),fun b b' x x' l l' h1=>(by rw[h0 b]at h1; cases h1),fun b l hb=>(by cases hb),fun B c hB=>.inl hB⟩
 refine(h.2 W0 Φ (fun _=>none) vs w hr0 (ha.closed hca) (fun b hb=>by simp only[List.mem_singleton]at hb; subst hb; exact⟨rfl,h1⟩)).mono fun e w' he=>?_
 obtain⟨u,r,m1,Ar,ρ',e1,hE,_,hr',hR,_,hKr⟩:=he;have hrv:=hK r m1 hKr;subst hrv;have hb:Below w.heap.size w w':=hr'.base.below;have hr2:=hr.below hb;have hE2:Ext Φ ρ Ar ρ:=⟨hE.Bn,fun b l h=>h⟩
 refine⟨u,r,m,Ar,ρ,e1,hE2,fun b _ _ h=>h,⟨hr2.base,hr'.Bn,fun b x hx=>?_,hr2.inj,hr2.fresh,fun B c hB=>?_⟩,hR.closed Pj,lR _,rfl,rfl⟩
 ·obtain⟨l,o,g1,g2,g3,g4,g5⟩:=hr.live b x hx;obtain⟨l',o',k1,k2,k3,k4,k5⟩:=hr2.live b x hx;refine⟨l',o',k1,k2,?_,k4,k5.ext hE2⟩;rw[g1]at k1; injection k1 with k1; subst k1
  cases hp:Ar l.blk with
  | none=>rfl
  | some c=>
   rcases hr'.Cr _ _ hp with h1|h1
   ·have h1':Φ l.blk=some c:=h1;rw[g3]at h1'; cases h1'
   ·have h2:w.heap.size≤l.blk:=h1.1;have:=Lx g4;omega
 ·rcases hr'.Cr B c hB with h1|h1
  ·exact hr.Cr B c h1
  ·have h2:w.heap.size≤B:=h1.1;refine .inr ⟨Nat.le_trans hr.base.below.size h2,?_⟩;cases hg:W.g B with
   | none=>rfl
   | some o=>
    have:=Lx (hr.base.DB B o hg);omega
end Go.AE
end
section
namespace Go.AE
open Go.RowKit
def FI(ops:Array Oper):List Nat→Array Bool→Prop
 | [],l=>Region.ready .any ops l=[]
 | i :: r,l=>i∈Region.ready .any ops l∧FI ops r (l.setIfInBounds i true)
theorem Z3l{ops:Array Oper}{listed:Array Bool}(hs:listed.size=ops.size){i:Nat}(hi:i∈Region.ready .any ops listed):0<((List.range ops.size).filter fun j=>!listed.getD j false).length:=by
 obtain⟨h1,h2,_⟩:=(F4 hs).1 hi;exact List.length_pos_of_mem (a:=i) (List.mem_filter.2 ⟨mR.2 h1,by simp[h2]⟩)
theorem yL{ops:Array Oper}:∀ (fuel t:Nat) (listed:Array Bool),listed.size=ops.size→((List.range ops.size).filter fun j=>!listed.getD j false).length≤fuel→FI ops (Region.linearise.go .any ops fuel t listed []) listed
 | 0,t,listed,hs,hc=>by
  simp only[Region.linearise.go,List.reverse_nil,FI];cases hr:Region.ready .any ops listed with
  | nil=>rfl
  | cons i r=>
   have:=Z3l hs (by rw[hr]; simp:i∈Region.ready .any ops listed)
   omega
 | fuel+1,t,listed,hs,hc=>by
  simp only[Region.linearise.go]
  change FI ops (match (Region.ready .any ops listed)[t % (Region.ready .any ops listed).length]? with
   | some i=>Region.linearise.go .any ops fuel (t / (Region.ready .any ops listed).length) (listed.setIfInBounds i true) [i]
   | none=>[].reverse) listed
  cases hi:(Region.ready .any ops listed)[t % (Region.ready .any ops listed).length]? with
  | none=>
   cases hr:Region.ready .any ops listed with
   | nil=>simpa[FI]using hr
   | cons x xs=>
    exfalso;rw[hr]at hi;have hlt:t % (x :: xs).length<(x :: xs).length:=Nat.mod_lt _ (by simp)
    simp at hi;simp at hlt;omega
  | some i=>
   simp only[];rw[linearise_go_acc,List.reverse_singleton,List.singleton_append];have hm:=List.mem_of_getElem? hi;obtain⟨h1,h2,_⟩:=(F4 hs).1 hm;refine⟨hm,yL fuel _ _ (by simpa using hs) ?_⟩
   have:=aY (listed:=listed) (n:=ops.size) h1 (by rw[hs]; exact h1) h2
   omega
theorem nA{ops:Array Oper}:∀ (l:List Nat) (listed:Array Bool),listed.size=ops.size→FI ops l listed→l.length≤((List.range ops.size).filter fun j=>!listed.getD j false).length
 | [],_,_,_=>Nat.zero_le _
 | i :: r,listed,hs,h=>by
  obtain⟨h1,h2,_⟩:=(F4 hs).1 h.1;have:=aY (listed:=listed) (n:=ops.size) h1 (by rw[hs]; exact h1) h2
  have:=nA r _ (by simpa using hs) h.2
  simp only[lC];omega
section
variable {P:Program} {Q:Exit→Act→World→Prop}
theorem Yn{ops:Array Oper}:∀ (l:List Nat) (fuel:Nat) (listed:Array Bool) (a:Act) (w:World),l.length≤fuel→wpAny P .any ops Q fuel listed a w→FI ops l listed→wpOps P ops Q l a w
 | [],0,_,_,_,_,h,_=>h.2
 | [],_+1,_,_,_,_,h,hl=>h.1 hl
 | i :: r,0,_,_,_,hf,_,_=>by simp at hf
 | i :: r,fuel+1,listed,a,w,hf,h,hl=>by
  rw[wpOps_cons];exact wpOp_mono (fun a w hh=>Yn r fuel _ a w (by simpa using hf) hh hl.2) (h.2 i hl.1)
def Sf(x y:Nat):List Nat→Array Bool→Prop
 | [],_=>True
 | i :: r,l=>(i=y→l.getD x false=true)∧Sf x y r (l.setIfInBounds i true)
theorem Zc{ops:Array Oper}{x y:Nat}:∀ (l:List Nat) (listed:Array Bool),listed.size=ops.size→FI ops l listed→listed.getD x false=true→Sf x y l listed
 | [],_,_,_,_=>trivial
 | i :: r,listed,hs,h,hx=>by
  refine⟨fun _=>hx,Zc r _ (by simpa using hs) h.2 ?_⟩
  rw[H1 (by rw[hs]; exact((F4 hs).1 h.1).1)]
  split
  ·rfl
  ·exact hx
theorem pG{ops:Array Oper}{x y:Nat}(hxy:x≠y):∀ (l:List Nat) (listed:Array Bool),listed.size=ops.size→FI ops l listed→Sf x y l listed∨Sf y x l listed
 | [],_,_,_=>.inl trivial
 | i :: r,listed,hs,h=>by
  have hi:i<listed.size:=by rw[hs]; exact((F4 hs).1 h.1).1
  have hs':(listed.setIfInBounds i true).size=ops.size:=by simpa using hs
  by_cases hix:i=x
  ·refine .inl ⟨fun e=>absurd (hix.symm.trans e) hxy,Zc r _ hs' h.2 ?_⟩
   rw[H1 hi,iP hix]
  ·by_cases hiy:i=y
   ·refine .inr ⟨fun e=>absurd (e.symm.trans hiy) hxy,Zc r _ hs' h.2 ?_⟩
    rw[H1 hi,iP hiy]
   ·rcases pG hxy r _ hs' h.2 with hb|hb
    ·exact .inl ⟨fun e=>absurd e hiy,hb⟩
    ·exact .inr ⟨fun e=>absurd e hix,hb⟩
def J6(ops:Array Oper)(y:Nat)(e:Edge):Array Oper:=ops.modify y fun o=>{ o with after:=o.after.push e }
theorem WS{ops:Array Oper}{y:Nat}{e:Edge}{i:Nat}{o:Oper}(h:ops[i]? = some o):(J6 ops y e)[i]? = some (if y=i then { o with after:=o.after.push e } else o):=by
 unfold J6;rw[Array.getElem?_modify];by_cases hy:y=i
 ·rw[iP hy,iP hy,h]; rfl
 ·rw[iN hy,iN hy,h]
theorem GJ{ops:Array Oper}{y:Nat}{e:Edge}:(J6 ops y e).size=ops.size:=by simp[J6]
theorem YQ{ops:Array Oper}{x y:Nat}{e:Edge}(he:e.on=x):∀ (l:List Nat) (listed:Array Bool),listed.size=ops.size→FI ops l listed→Sf x y l listed→FI (J6 ops y e) l listed
 | [],listed,hs,h,_=>by
  simp only[FI]at h ⊢;cases hr:Region.ready .any (J6 ops y e) listed with
  | nil=>rfl
  | cons i r=>
   exfalso;obtain⟨h1,h2,h3⟩:=(F4 (by rw[GJ]; exact hs)).1 (by rw[hr]; simp:i∈Region.ready .any (J6 ops y e) listed)
   have:i∈Region.ready .any ops listed:=(F4 hs).2 ⟨by rw[GJ]at h1; exact h1,h2,fun o ho e' he' hb=>by
    refine h3 _ (WS ho) e' ?_ hb;split
    ·simp only[Array.mem_toList_iff]at he' ⊢;exact Array.mem_push_of_mem _ he'
    ·exact he'⟩
   rw[h]at this;simp at this
 | i :: r,listed,hs,h,hb=>by
  obtain⟨h1,h2,h3⟩:=(F4 hs).1 h.1;refine⟨(F4 (by rw[GJ]; exact hs)).2 ⟨by rw[GJ]; exact h1,h2,fun o ho e' he' hbi=>?_⟩,YQ he r _ (by simpa using hs) h.2 hb.2⟩
  have ho1:ops[i]? = some ops[i]:=Array.getElem?_eq_getElem h1;rw[WS ho1]at ho;injection ho with ho
  subst ho;by_cases hy:y=i
  ·rw[iP hy]at he';simp only[Array.mem_toList_iff,Array.mem_push]at he';rcases he' with he'|rfl
   ·exact h3 _ ho1 e' (by simpa using he') hbi
   ·rw[he]; exact hb.1 hy.symm
  ·rw[iN hy]at he';exact h3 _ ho1 e' he' hbi
theorem ZQ{ops ops':Array Oper}{q:Nat→Nat}(h:∀ i o,ops[i]? = some o → ∃ A,ops'[q i]? = some { o with after:=A,guard:=o.guard.map fun g=>(q g.1,g.2) })(hn:∀ i,ops[i]? = none→ops'[q i]? = none) :
 ∀(l:List Nat) (a:Act) (w:World),wpOps P ops' Q (l.map q) a w→wpOps P ops Q l a w
 | [],_,_,hh=>hh
 | i :: r,a,w,hh=>by
  rw[List.map_cons,wpOps_cons]at hh;rw[wpOps_cons];have ih:=ZQ h hn r;have hy:∀ j,yielded ops' a.tmps (q j)=yielded ops a.tmps j:=fun j=>by
   unfold yielded;cases ho:ops[j]? with
   | none=>rw[hn j ho]
   | some o=>obtain ⟨A,e⟩:=h j o ho; rw[e]; rfl
  unfold wpOp at hh ⊢;cases ho:ops[i]? with
  | none=>
   rw[hn i ho]at hh;exact ih _ _ hh
  | some o=>
   obtain⟨A,e⟩:=h i o ho;rw[e]at hh;simp only at hh ⊢;have hw:Region.wanted { o with after:=A,guard:=o.guard.map fun g=>(q g.1,g.2) } (yielded ops' a.tmps)=Region.wanted o (yielded ops a.tmps):=by
    unfold Region.wanted;cases hg:o.guard with
    | none=>simp
    | some g=>obtain ⟨j,b⟩:=g; simp only[Option.map_some]; rw[hy j]
   rw[hw]at hh;split
   ·rename_i hc;rw[iP hc]at hh;rcases hh with hh|hh
    ·exact .inl (Oper.wp_mono (fun a w hk=>ih a w hk) (show o.wp P a w (wpOps P ops' Q (r.map q)) Q from hh))
    ·exact .inr hh
   ·rename_i hc;rw[iN hc]at hh;exact ih _ _ hh
def GK(ops:Array Oper)(p q:Nat→Nat):Array Oper:=
 ((List.range ops.size).map fun k=>let o:=ops.getD (p k) default
   ({ o with after:=o.after.map fun e=>{ e with on:=q e.on },guard:=o.guard.map fun g=>(q g.1,g.2) }:Oper)).toArray
structure DJ (n:Nat) (p q:Nat→Nat):Prop where
 NP:∀ i,i<n→q i<n∧p (q i)=i
 to:∀ k,k<n→p k<n∧q (p k)=k
 out:∀ i,n≤i→q i=i
theorem nM{ops:Array Oper}{p q:Nat→Nat}{k:Nat}{o:Oper}(hk:k<ops.size)(h:ops[p k]? = some o) :
 (GK ops p q)[k]? = some { o with after:=o.after.map fun e=>{ e with on:=q e.on },guard:=o.guard.map fun g=>(q g.1,g.2) }:=by
 unfold GK;rw[List.getElem?_toArray,gM,List.getElem?_range hk];simp only[Option.map_some,Array.getD_eq_getD_getElem?,h,Option.getD_some]
theorem RE{ops:Array Oper}{p q:Nat→Nat}:(GK ops p q).size=ops.size:=by simp[GK]
theorem Z2z{ops:Array Oper}{p q:Nat→Nat}(hp:DJ ops.size p q):∀ (l:List Nat) (listed AR:Array Bool),listed.size=ops.size→AR.size=ops.size→(∀ i,i<ops.size→AR.getD (q i) false=listed.getD i false) →
 FI ops l listed→FI (GK ops p q) (l.map q) AR:=by
 have hon:∀ (listed AR:Array Bool),listed.size=ops.size→AR.size=ops.size→(∀ i,i<ops.size→AR.getD (q i) false=listed.getD i false) → ∀ i,AR.getD (q i) false=listed.getD i false:=by
  intro listed AR h1 h2 h i;rcases lG i ops.size with hi|hi
  ·exact h i hi
  ·rw[hp.out i hi,Array.getD_eq_getD_getElem?,Array.getD_eq_getD_getElem?,Array.getElem?_eq_none (by omega),Array.getElem?_eq_none (by omega)]
 have hmem:∀ (listed AR:Array Bool),listed.size=ops.size→AR.size=ops.size→(∀ i,i<ops.size→AR.getD (q i) false=listed.getD i false) → ∀ i,i<ops.size→(q i∈Region.ready .any (GK ops p q) AR↔i∈Region.ready .any ops listed):=by
  intro listed AR h1 h2 h i hi;have ho:ops[p (q i)]? = some ops[i]:=by rw[(hp.NP i hi).2]; exact Array.getElem?_eq_getElem hi
  have ho':ops[i]? = some ops[i]:=Array.getElem?_eq_getElem hi;have hg:=nM (q:=q) (hp.NP i hi).1 ho;rw[F4 h1,F4 (by rw[RE]; exact h2),RE]
  constructor
  ·rintro⟨_,g2,g3⟩;refine⟨hi,by rw[← h i hi]; exact g2,fun o hoo e he hb=>?_⟩
   rw[ho']at hoo; injection hoo with hoo; subst hoo
   rw[← hon listed AR h1 h2 h];exact g3 _ hg { e with on:=q e.on } (by simp only[Array.mem_toList_iff,Array.mem_map]at he ⊢; exact⟨e,he,rfl⟩) hb
  ·rintro⟨_,g2,g3⟩;refine⟨(hp.NP i hi).1,by rw[h i hi]; exact g2,fun o hoo e he hb=>?_⟩
   rw[hg]at hoo; injection hoo with hoo; subst hoo
   simp only[Array.mem_toList_iff,Array.mem_map]at he;obtain⟨e0,he0,rfl⟩:=he;simp only;rw[hon listed AR h1 h2 h];exact g3 _ ho' e0 (by simpa using he0) hb
 intro l
 induction l with
 | nil=>
  intro listed AR h1 h2 h hl;simp only[FI,List.map_nil]at hl ⊢;cases hr:Region.ready .any (GK ops p q) AR with
  | nil=>rfl
  | cons k r=>
   exfalso;have hk:k∈Region.ready .any (GK ops p q) AR:=by rw[hr]; simp
   have hkn:k<ops.size:=by have:=((F4 (by rw[RE]; exact h2)).1 hk).1; rw[RE]at this; exact this
   have:=(hmem listed AR h1 h2 h (p k) (hp.to k hkn).1).1 (by rw[(hp.to k hkn).2]; exact hk)
   rw[hl]at this;simp at this
 | cons i r ih=>
  intro listed AR h1 h2 h hl;have hi:=((F4 h1).1 hl.1).1;refine⟨(hmem listed AR h1 h2 h i hi).2 hl.1,ih _ _ (by simpa using h1) (by simpa using h2) (fun j hj=>?_) hl.2⟩
  rw[H1 (by rw[h2]; exact(hp.NP i hi).1),H1 (by rw[h1]; exact hi),h j hj]
  by_cases hij:i=j
  ·subst hij; simp
  ·rw[iN hij,iN fun e=>hij (by rw[← (hp.NP i hi).2,← (hp.NP j hj).2,e])]
theorem Z4f{ops:Array Oper}{y:Nat}{e:Edge}{i:Nat}(h:ops[i]? = none):(J6 ops y e)[i]? = none:=by
 rw[Array.getElem?_eq_none_iff]at h ⊢;rw[GJ]; exact h
end
section
variable {P:Program}
theorem Z8c(hm:P.follows .mixedOrders=true){id:Nat}{ops:Array Oper}{Q:Exit→AY→Prop}{σ:AY}(x y:Nat)(hxy:x≠y)(g:Ground)(p q:Nat→Nat)(hp:DJ ops.size p q)
 (hA:BU P (Y4 P (.region id (J6 ops y ⟨x,g⟩) true)) Q σ) (hB:BU P (Y4 P (.region id (GK (J6 ops x ⟨y,g⟩) p q) true)) Q σ):DI P (.region id ops true) Q σ:=by
 intro W Φ ρ a w hr ht hd;refine wp_region_draw fun t=>?_
 simp only[Region.schedule,hm,Bool.true_or,if_true];have h0:(Array.replicate ops.size false).size=ops.size:=by simp
 have hlin:FI ops (Region.linearise .any ops t) (Array.replicate ops.size false):=yL ops.size t _ h0 (by
  have:=List.length_filter_le (fun j=>!(Array.replicate ops.size false).getD j false) (List.range ops.size)
  simpa using this)
 generalize Region.linearise .any ops t=l at hlin;have hlen:l.length≤ops.size:=Nat.le_trans (nA l _ h0 hlin) (by
  have:=List.length_filter_le (fun j=>!(Array.replicate ops.size false).getD j false) (List.range ops.size)
  simpa using this)
 have hid:∀ (z:Nat) (e:Edge) (l:List Nat) (a:Act) (w:World),wpOps P (J6 ops z e) (J7 W Φ ρ σ.m.next Q) l a w→wpOps P ops (J7 W Φ ρ σ.m.next Q) l a w:=fun z e l a w hh=>
  ZQ (q:=fun i=>i) (fun i o ho=>by
   by_cases hz:z=i
   ·exact⟨o.after.push e,by rw[WS ho,iP hz]; obtain⟨_,_,_,_,_,gd⟩:=o; cases gd<;>rfl⟩
   ·exact⟨o.after,by rw[WS ho,iN hz]; obtain⟨_,_,_,_,_,gd⟩:=o; cases gd<;>rfl⟩) (fun i hn=>Z4f hn) l a w (by rw[List.map_id']; exact hh)
 rcases pG hxy l _ h0 hlin with hb|hb
 ·have hl:=YQ (e:=⟨x,g⟩) rfl l _ h0 hlin hb;have hw:=XT hA hr ht hd;rw[GJ]at hw;exact hid _ _ _ _ _ (Yn l _ _ _ _ hlen hw hl)
 ·have hl:=YQ (e:=⟨y,g⟩) rfl l _ h0 hlin hb;have hw:=XT hB hr ht hd;rw[RE,GJ]at hw;have hp':DJ (J6 ops x ⟨y,g⟩).size p q:=by rw[GJ]; exact hp
  have hl':=Z2z hp' l _ (Array.replicate ops.size false) (by rw[GJ]; exact h0) (by rw[GJ]; exact h0) (fun i hi=>by
   rw[GJ]at hi;simp[Array.getD]) hl
  refine hid x ⟨y,g⟩ _ _ _ (ZQ (q:=q) (fun i o ho=>?_) (fun i hn=>?_) l _ _ (Yn (l.map q) _ _ _ _ (by rw[lM]; exact hlen) hw hl'))
  ·have hi:i<(J6 ops x ⟨y,g⟩).size:=(Array.getElem?_eq_some_iff.1 ho).1;exact⟨_,nM (hp'.NP i hi).1 (by rw[(hp'.NP i hi).2]; exact ho)⟩
  ·rw[Array.getElem?_eq_none_iff]at hn ⊢;rw[RE];rw[GJ]at hn ⊢;rw[hp.out i hn]; exact hn
end
end Go.AE
end
