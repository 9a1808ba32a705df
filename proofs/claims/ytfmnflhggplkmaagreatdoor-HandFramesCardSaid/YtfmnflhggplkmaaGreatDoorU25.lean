/- Part 25 of the proof: AeMemo. -/
import Derived.Test.YtfmnflhggplkmaaGreatDoorU24
set_option linter.all false
namespace Go.AE
open Go.RowKit
mutual
def AVal.closed:AVal→Bool
 | .bool _ | .int _ _ | .str _ | .nilPtr | .nilSl | .emp | .nilMap | .nilFunc | .nilIface | .bot=>true
 | .imm els=>closedLL els
 | .agg cs=>closedL cs
 | .tuple cs=>closedL cs
 | .func _ a b=>closedL a&&closedL b
 | .iptr els _ _=>closedLL els
 | _=>false
def closedL:List AVal→Bool
 | []=>true
 | x :: r=>x.closed&&closedL r
def closedLL:List (List AVal)→Bool
 | []=>true
 | x :: r=>closedL x&&closedLL r
end
theorem closedL_get:∀ {l:List AVal} {i:Nat} {x:AVal},closedL l=true→l[i]? = some x→x.closed=true
 | [],i,x,_,h=>by simp at h
 | y :: r,i,x,h,hx=>by
  simp only[closedL,Bool.and_eq_true]at h
  cases i with
  | zero=>simp only[List.getElem?_cons_zero,Option.some.injEq]at hx; subst hx; exact h.1
  | succ i=>simp only[List.getElem?_cons_succ]at hx; exact closedL_get h.2 hx
theorem closedLL_get:∀ {l:List (List AVal)} {i:Nat} {x:List AVal},closedLL l=true→l[i]? = some x→closedL x=true
 | [],i,x,_,h=>by simp at h
 | y :: r,i,x,h,hx=>by
  simp only[closedLL,Bool.and_eq_true]at h
  cases i with
  | zero=>simp only[List.getElem?_cons_zero,Option.some.injEq]at hx; subst hx; exact h.1
  | succ i=>simp only[List.getElem?_cons_succ]at hx; exact closedLL_get h.2 hx
theorem R.closed {Φ:Pers} {ρ ρ':Rho} {x:AVal} {v:Value} (h:R Φ ρ x v) (hc:x.closed=true):R Φ ρ' x v:=by
 induction h with
 | bool b=>exact .bool b
 | int k n=>exact .int k n
 | str s=>exact .str s
 | ptr b i j l h=>simp[AVal.closed]at hc
 | iptr els i j B o k c f hB hk hcc _ ih=>
  simp only[AVal.closed]at hc
  exact .iptr els i j B o k c f hB hk hcc fun i row j x h1 h2=>ih i row j x h1 h2 (closedL_get (closedLL_get hc h1) h2)
 | nilPtr=>exact .nilPtr
 | nilSl=>exact .nilSl
 | emp a=>exact .emp a
 | sl b off len a cap l h hl hn hcc ha=>simp[AVal.closed]at hc
 | imm0 a cap h=>exact .imm0 a cap h
 | imm els B o k cap c f hne hcap hB hk hcc _ ih=>
  simp only[AVal.closed]at hc
  exact .imm els B o k cap c f hne hcap hB hk hcc fun i row j x h1 h2=>ih i row j x h1 h2 (closedL_get (closedLL_get hc h1) h2)
 | map b l h=>simp[AVal.closed]at hc
 | nilMap=>exact .nilMap
 | func fn fs cs vf vc hf hcs _ _ ih1 ih2=>
  simp only[AVal.closed,Bool.and_eq_true]at hc
  exact .func fn fs cs vf vc hf hcs (fun i x v h1 h2=>ih1 i x v h1 h2 (closedL_get hc.1 h1)) (fun i x v h1 h2=>ih2 i x v h1 h2 (closedL_get hc.2 h1))
 | nilFunc=>exact .nilFunc
 | yld b l h=>simp[AVal.closed]at hc
 | atLeast n c h=>simp[AVal.closed]at hc
 | iface t x v _ ih=>simp[AVal.closed]at hc
 | nilIface=>exact .nilIface
 | agg cs vs hs _ ih=>
  simp only[AVal.closed]at hc
  exact .agg cs vs hs fun i x v h1 h2=>ih i x v h1 h2 (closedL_get hc h1)
 | tuple cs vs hs _ ih=>
  simp only[AVal.closed]at hc
  exact .tuple cs vs hs fun i x v h1 h2=>ih i x v h1 h2 (closedL_get hc h1)
 | bot v=>exact .bot v
theorem RL.closed {Φ:Pers} {ρ ρ':Rho} {xs:List AVal} {vs:Array Value} (h:RL Φ ρ xs vs) (hc:closedL xs=true):RL Φ ρ' xs vs:=
 ⟨h.1,fun i x v hx hv=>(h.2 i x v hx hv).closed (closedL_get hc hx)⟩
theorem pure_closed {P:Program} {g:FuncId} {args:List AVal} {v:AVal} {m0:Mem} {K:AVal→Mem→Prop} (hca:closedL args=true) (hcv:v.closed=true) (h0:∀ c,m0.get c=none) (h1:0<m0.next)
 (h:ACalls P g args m0 [0] K) (hK:∀ r m',K r m'→r=v) (m:Mem) (av:List Nat):ACalls P g args m av fun r m'=>r=v∧m'=m:=by
 refine⟨h.1,fun W Φ ρ vs w hr ha hav=>?_⟩
 let W0:Base:=⟨w,fun _=>none,Φ⟩
 have hr0:Rel W0 Φ (fun _=>none) m0 w:=
  ⟨⟨Below.refl _ _,fun B o hB=>(by cases hB)⟩,hr.pers,fun b x hx=>(by rw[h0 b]at hx; cases hx),fun b b' x x' l l' h1=>(by rw[h0 b]at h1; cases h1),fun b l hb=>(by cases hb),fun B c hB=>.inl hB⟩
 refine(h.2 W0 Φ (fun _=>none) vs w hr0 (ha.closed hca) (fun b hb=>by simp only[List.mem_singleton]at hb; subst hb; exact⟨rfl,h1⟩)).mono fun e w' he=>?_
 obtain⟨u,r,m1,Φ',ρ',e1,hE,_,hr',hR,_,hKr⟩:=he
 have hrv:=hK r m1 hKr
 subst hrv
 have hb:Below w.heap.size w w':=hr'.base.below
 have hr2:=hr.below hb
 have hE2:Ext Φ ρ Φ' ρ:=⟨hE.pers,fun b l h=>h⟩
 refine⟨u,r,m,Φ',ρ,e1,hE2,fun b _ _ h=>h,⟨hr2.base,hr'.pers,fun b x hx=>?_,hr2.inj,hr2.fresh,fun B c hB=>?_⟩,hR.closed hcv,Nat.le_refl _,rfl,rfl⟩
 ·obtain⟨l,o,g1,g2,g3,g4,g5⟩:=hr.live b x hx
  obtain⟨l',o',k1,k2,k3,k4,k5⟩:=hr2.live b x hx
  refine⟨l',o',k1,k2,?_,k4,k5.ext hE2⟩
  rw[g1]at k1; injection k1 with k1; subst k1
  cases hp:Φ' l.blk with
  | none=>rfl
  | some c=>
   rcases hr'.newp _ _ hp with h1|h1
   ·have h1':Φ l.blk=some c:=h1
    rw[g3]at h1'; cases h1'
   ·have h2:w.heap.size≤l.blk:=h1.1
    have:=heap_lt g4
    omega
 ·rcases hr'.newp B c hB with h1|h1
  ·exact hr.newp B c h1
  ·have h2:w.heap.size≤B:=h1.1
   refine .inr ⟨Nat.le_trans hr.base.below.size h2,?_⟩
   cases hg:W.g B with
   | none=>rfl
   | some o=>
    have:=heap_lt (hr.base.prot B o hg)
    omega
end Go.AE
