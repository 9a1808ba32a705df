/- Part 17 of the proof: AeU, AeFr. -/
import Derived.Test.YtfmnflhggplkmaaGreatDoorU16
set_option linter.all false
section
namespace Go.AE
open Go.RowKit
theorem map_ev {t t2:List AVal} {xs:List AOpd} (h:∀ x,x∈xs→ev t x=ev t2 x):xs.map (ev t)=xs.map (ev t2):=List.map_congr_left h
theorem optNat_ev {t t2:List AVal} {d:Nat} {o:Option AOpd} (h:∀ x,x∈o.toList→ev t x=ev t2 x):optNat t d o=optNat t2 d o:=by
 cases o with
 | none=>rfl
 | some x=>simp only[optNat]; rw[h x (by simp)]
theorem slBounds_ev {t t2:List AVal} {n mx:Nat} {lo hi:Option AOpd} (h1:∀ x,x∈lo.toList→ev t x=ev t2 x) (h2:∀ x,x∈hi.toList→ev t x=ev t2 x):slBounds t n mx lo hi=slBounds t2 n mx lo hi:=by
 simp only[slBounds,optNat_ev h1,optNat_ev h2]
theorem foot_kind0 {id:Nat} {t:List AVal} {op:AOp} (h:op.kind=0):footW id t op=[]∧footR t op=[]:=by
 cases op<;>first|exact⟨rfl,rfl⟩|(exfalso; revert h; simp[AOp.kind]; done)
theorem foot_kind1 {id:Nat} {t:List AVal} {op:AOp} (h:op.kind≤1):footW id t op=[]:=by
 cases op<;>first|rfl|(exfalso; revert h; simp[AOp.kind]; done)
theorem stepA_ev {id:Nat} {t t2:List AVal} {m:Mem} {op:AOp} (h:∀ x,x∈op.opds→ev t x=ev t2 x):stepA id t m op=stepA id t2 m op:=by
 cases op with
 | build z ps=>
  have:(ps.map fun p=>(p.1,p.2.1,ev t p.2.2))=ps.map fun p=>(p.1,p.2.1,ev t2 p.2.2):=List.map_congr_left fun p hp=>by rw[h p.2.2 (List.mem_map.2 ⟨p,hp,rfl⟩)]
  simp only[stepA,this]
 | mkSl k len z ps=>
  have:(ps.map fun p=>(p.1,ev t p.2))=ps.map fun p=>(p.1,ev t2 p.2):=List.map_congr_left fun p hp=>by rw[h p.2 (List.mem_map.2 ⟨p,hp,rfl⟩)]
  simp only[stepA,this]
 | mkFunc fn a b=>
  simp only[stepA,map_ev (fun x hx=>h x (List.mem_append_left _ hx)),map_ev (fun x hx=>h x (List.mem_append_right _ hx))]
 | minmax mx xs=>
  cases xs with
  | nil=>rfl
  | cons x r=>
   simp only[stepA]
   rw[h x (by simp[AOp.opds]),map_ev (fun y hy=>h y (by simp[AOp.opds,hy]))]
 | slStr x lo hi=>
  have h1:∀ y,y∈lo.toList→ev t y=ev t2 y:=fun y hy=>h y (by simp only[AOp.opds,List.mem_cons,List.mem_append]; exact .inr (.inl hy))
  have h2:∀ y,y∈hi.toList→ev t y=ev t2 y:=fun y hy=>h y (by simp only[AOp.opds,List.mem_cons,List.mem_append]; exact .inr (.inr hy))
  simp only[stepA,h x (by simp[AOp.opds]),slBounds_ev h1 h2]
 | slSl k x lo hi mx=>
  have h1:∀ y,y∈lo.toList→ev t y=ev t2 y:=fun y hy=>h y (by simp only[AOp.opds,List.mem_cons,List.mem_append]; exact .inr (.inl (.inl hy)))
  have h2:∀ y,y∈hi.toList→ev t y=ev t2 y:=fun y hy=>h y (by simp only[AOp.opds,List.mem_cons,List.mem_append]; exact .inr (.inl (.inr hy)))
  have h3:∀ y,y∈mx.toList→ev t y=ev t2 y:=fun y hy=>h y (by simp only[AOp.opds,List.mem_cons,List.mem_append]; exact .inr (.inr hy))
  cases mx with
  | none=>
   simp only[stepA,h x (by simp[AOp.opds])]
   cases ev t2 x<;>simp only[slBounds_ev h1 h2]
  | some z=>
   simp only[stepA,h x (by simp[AOp.opds]),optNat_ev h1,optNat_ev (o:=some z) (fun y hy=>h3 y hy)]
   cases hi with
   | none=>cases sliceLen (ev t2 x)<;>cases optNat t2 0 (some z)<;>cases optNat t2 0 lo<;>rfl
   | some q=>
    have hq:=h2 q (by simp)
    cases sliceLen (ev t2 x)<;>cases optNat t2 0 (some z)<;>cases optNat t2 0 lo<;>simp only[hq]
 | slArr n k x lo hi=>rfl
 | call f xs=>rfl
 | alloc z=>rfl
 | mkMap=>rfl
 | lenArr n=>rfl
 | capSl x=>rfl
 | dead=>rfl
 | mapEnt kt z a b=>rfl
 | entSt a b c=>rfl
 | delete kt a b=>rfl
 | range a=>rfl
 | nextS a=>rfl
 | nextM a=>rfl
 | appendZ k b z s x=>rfl
 | mov x=>simp only[stepA,h x (by simp[AOp.opds])]
 | box x=>simp only[stepA,h x (by simp[AOp.opds])]
 | load n x=>simp only[stepA,h x (by simp[AOp.opds])]
 | nilChk x=>simp only[stepA,h x (by simp[AOp.opds])]
 | un op x=>simp only[stepA,h x (by simp[AOp.opds])]
 | convInt k x=>simp only[stepA,h x (by simp[AOp.opds])]
 | convId x=>simp only[stepA,h x (by simp[AOp.opds])]
 | toStr x=>simp only[stepA,h x (by simp[AOp.opds])]
 | fieldA off x=>simp only[stepA,h x (by simp[AOp.opds])]
 | field off n x=>simp only[stepA,h x (by simp[AOp.opds])]
 | ext x i=>simp only[stepA,h x (by simp[AOp.opds])]
 | lenStr x=>simp only[stepA,h x (by simp[AOp.opds])]
 | lenSl x=>simp only[stepA,h x (by simp[AOp.opds])]
 | lenMap x=>simp only[stepA,h x (by simp[AOp.opds])]
 | iface ty x=>simp only[stepA,h x (by simp[AOp.opds])]
 | clear k z x=>simp only[stepA,h x (by simp[AOp.opds])]
 | pick c a b=>simp only[stepA,h c (by simp[AOp.opds]),h a (by simp[AOp.opds]),h b (by simp[AOp.opds])]
 | store n a x=>simp only[stepA,h a (by simp[AOp.opds]),h x (by simp[AOp.opds])]
 | bin op e a x=>simp only[stepA,h a (by simp[AOp.opds]),h x (by simp[AOp.opds])]
 | makeSl k b z a x=>simp only[stepA,h a (by simp[AOp.opds]),h x (by simp[AOp.opds])]
 | idxA k a x=>simp only[stepA,h a (by simp[AOp.opds]),h x (by simp[AOp.opds])]
 | idxAA n k a x=>simp only[stepA,h a (by simp[AOp.opds]),h x (by simp[AOp.opds])]
 | idxStr a x=>simp only[stepA,h a (by simp[AOp.opds]),h x (by simp[AOp.opds])]
 | idxArr n k sz a x=>simp only[stepA,h a (by simp[AOp.opds]),h x (by simp[AOp.opds])]
 | lookup kt z ok a x=>simp only[stepA,h a (by simp[AOp.opds]),h x (by simp[AOp.opds])]
 | append k b z a x=>simp only[stepA,h a (by simp[AOp.opds]),h x (by simp[AOp.opds])]
 | copy k a x=>simp only[stepA,h a (by simp[AOp.opds]),h x (by simp[AOp.opds])]
 | mapUpd kt a b c=>simp only[stepA,h a (by simp[AOp.opds]),h b (by simp[AOp.opds]),h c (by simp[AOp.opds])]
theorem callee_ev {t t2:List AVal} {f:AOpd} {xs:List AOpd} (h:∀ x,x∈(AOp.call f xs).opds→ev t x=ev t2 x):callee t f xs=callee t2 f xs:=by
 have h1:xs.map (ev t)=xs.map (ev t2):=map_ev fun y hy=>h y (by simp only[AOp.opds,List.mem_cons]; exact .inr hy)
 simp only[callee,h f (by simp[AOp.opds]),h1]
def lastW (p:Nat→Bool):Nat→Option Nat
 | 0=>none
 | n+1=>if p n then some n else lastW p n
theorem lastW_congr {p q:Nat→Bool}:∀ (n:Nat),(∀ j,j<n→p j=q j)→lastW p n=lastW q n
 | 0,_=>rfl
 | n+1,h=>by
  simp only[lastW]
  rw[h n (Nat.lt_succ_self n),lastW_congr n fun j hj=>h j (Nat.lt_succ_of_lt hj)]
theorem lastW_top {p:Nat→Bool} {i:Nat} (hi:p i=true):∀ (n:Nat),i<n→(∀ j,i<j→j<n→p j=false)→lastW p n=some i
 | 0,h,_=>absurd h (Nat.not_lt_zero _)
 | n+1,h,hj=>by
  simp only[lastW]
  by_cases hin:i=n
  ·subst hin; rw[if_pos hi]
  ·rw[hj n (by omega) (Nat.lt_succ_self n)]
   simp only[Bool.false_eq_true,if_false]
   exact lastW_top hi n (by omega) fun j h1 h2=>hj j h1 (by omega)
end Go.AE
end
section
namespace Go.AE
open Go.RowKit
theorem call_frame {P:Program} {f:FuncId} {args:List AVal} {id:Nat} {x:List Nat} {m m3:Mem} {v:AVal} (hid:id∉x) (hx3:∀ c,c∈x→m3.get c=none) (hn:m.next≤m3.next)
 (h:ACalls P f args (m.less x) [id] fun v' m''=>v'=v∧m''=m3) {m2:Mem} (hag:∀ c,c∉x→m2.get c=m.get c) (hnx:m2.next=m.next) :
 ACalls P f args m2 [id] fun v' m''=>v'=v∧m''=⟨fun c=>if c∈x then m2.get c else m3.get c,m3.next⟩:=by
 refine⟨h.1,fun W Φ ρ vs w hr ha hav=>?_⟩
 have hfr:∀ B,(∃ c l,c∈x∧(∃ y,m2.get c=some y)∧ρ c=some l∧l.blk=B) ∨ ¬(∃ c l,c∈x∧(∃ y,m2.get c=some y)∧ρ c=some l∧l.blk=B):=fun B=>Classical.em _
 have hg:∃ g:Nat→Option Obj,∀ B,((∃ c l,c∈x∧(∃ y,m2.get c=some y)∧ρ c=some l∧l.blk=B)→g B=w.heap[B]?)∧(¬(∃ c l,c∈x∧(∃ y,m2.get c=some y)∧ρ c=some l∧l.blk=B)→g B=W.g B):=by
  refine⟨fun B=>@ite _ (∃ c l,c∈x∧(∃ y,m2.get c=some y)∧ρ c=some l∧l.blk=B) (Classical.propDecidable _) (w.heap[B]?) (W.g B),fun B=>⟨fun h=>?_,fun h=>?_⟩⟩
  ·simp only[h,if_true]
  ·simp only[h,if_false]
 obtain⟨g,hg⟩:=hg
 let W':Base:=⟨W.w,g,Φ⟩
 have hfree2:∀ B,W'.Free B→W.Free B:=by
  intro B hB
  refine⟨hB.1,?_⟩
  rcases hfr B with h1|h1
  ·obtain⟨c,l,hc,⟨y,hy⟩,hl,hlB⟩:=h1
   obtain⟨l',o,g1,g2,_⟩:=hr.live c y hy
   rw[hl]at g1; injection g1 with g1; subst g1
   rw[← hlB]; exact g2.2
  ·have:=(hg B).2 h1
   have h2:g B=none:=hB.2
   rw[this]at h2; exact h2
 have hprot:∀ B o,g B=some o→w.heap[B]? = some o:=by
  intro B o hB
  rcases hfr B with h1|h1
  ·rw[(hg B).1 h1]at hB; exact hB
  ·rw[(hg B).2 h1]at hB; exact hr.base.prot B o hB
 have hr1:Rel W' Φ ρ (m.less x) w:=by
  refine⟨⟨hr.base.below,hprot⟩,hr.pers,fun b y hy=>?_,fun b b' y y' l l' h1 h2=>?_,fun b l hb=>by have:=hr.fresh b l hb; rw[hnx]at this; exact this,fun B c hB=>.inl hB⟩
  ·simp only[Mem.less]at hy
   by_cases hbx:b∈x
   ·rw[if_pos hbx]at hy; cases hy
   ·rw[if_neg hbx,← hag b hbx]at hy
    obtain⟨l,o,g1,g2,g3,g4,g5⟩:=hr.live b y hy
    refine⟨l,o,g1,⟨g2.1,?_⟩,g3,g4,g5⟩
    rcases hfr l.blk with h1|h1
    ·obtain⟨c,l',hc,⟨y',hy'⟩,hl,hlB⟩:=h1
     have:=hr.inj c b y' y l' l hy' hy hl g1 hlB
     exact absurd (this ▸ hc) hbx
    ·show g l.blk=none
     rw[(hg _).2 h1]; exact g2.2
  ·simp only[Mem.less]at h1 h2
   by_cases hbx:b∈x
   ·rw[if_pos hbx]at h1; cases h1
   ·by_cases hbx':b'∈x
    ·rw[if_pos hbx']at h2; cases h2
    ·rw[if_neg hbx,← hag b hbx]at h1
     rw[if_neg hbx',← hag b' hbx']at h2
     exact hr.inj b b' y y' l l' h1 h2
 refine(h.2 W' Φ ρ vs w hr1 ha (fun b hb=>⟨(hav b hb).1,by have:=(hav b hb).2; rw[hnx]at this; exact this⟩)).mono fun e w' he=>?_
 obtain⟨u,r,m4,Φ',ρ',e1,hE,hk,hr',hR,hn',hK1,hK2⟩:=he
 subst hK2
 refine⟨u,r,_,Φ',ρ',e1,hE,fun b hb=>hk b (by rw[hnx]at hb; exact hb),?_,hR,by rw[hnx]; exact hn,hK1,rfl⟩
 have hframed:∀ c l y,c∈x→m2.get c=some y→ρ c=some l→g l.blk=w.heap[l.blk]?:=fun c l y hc hy hl=>(hg _).1 ⟨c,l,hc,⟨y,hy⟩,hl,rfl⟩
 have hlive:∀ c y,c∈x→m2.get c=some y → ∃ l o,ρ' c=some l∧ρ c=some l∧W.Free l.blk∧g l.blk=some o∧Φ' l.blk=none∧w'.heap[l.blk]? = some o∧BR Φ' ρ' y l o:=by
  intro c y hc hy
  obtain⟨l,o,g1,g2,g3,g4,g5⟩:=hr.live c y hy
  have hgl:g l.blk=some o:=by rw[hframed c l y hc hy g1]; exact g4
  refine⟨l,o,hE.rho _ _ g1,g1,g2,hgl,?_,hr'.base.prot _ _ hgl,g5.ext hE⟩
  cases hp:Φ' l.blk with
  | none=>rfl
  | some cc=>
   rcases hr'.newp _ _ hp with h1|h1
   ·have h1':Φ l.blk=some cc:=h1
    rw[g3]at h1'; cases h1'
   ·have:g l.blk=none:=h1.2
    rw[hgl]at this; cases this
 refine⟨⟨hr'.base.below,fun B o hB=>hr'.base.prot B o ?_⟩,hr'.pers,fun b y hy=>?_,fun b b' y y' l l' h1 h2 k1 k2 he=>?_,hr'.fresh,fun B c hB=>?_⟩
 ·rcases hfr B with h1|h1
  ·show g B=some o
   rw[(hg B).1 h1]; exact hr.base.prot B o hB
  ·show g B=some o
   rw[(hg B).2 h1]; exact hB
 ·simp only at hy
  by_cases hbx:b∈x
  ·rw[if_pos hbx]at hy
   obtain⟨l,o,q1,_,q3,_,q5,q6,q7⟩:=hlive b y hbx hy
   exact⟨l,o,q1,q3,q5,q6,q7⟩
  ·rw[if_neg hbx]at hy
   obtain⟨l,o,g1,g2,g3,g4,g5⟩:=hr'.live b y hy
   exact⟨l,o,g1,hfree2 _ g2,g3,g4,g5⟩
 ·simp only at h1 h2
  by_cases hbx:b∈x
  ·rw[if_pos hbx]at h1
   obtain⟨l1,o1,q1,q2,_,q4,_⟩:=hlive b y hbx h1
   rw[k1]at q1; injection q1 with q1; subst q1
   by_cases hbx':b'∈x
   ·rw[if_pos hbx']at h2
    obtain⟨l2,o2,p1,p2,_,p4,_⟩:=hlive b' y' hbx' h2
    rw[k2]at p1; injection p1 with p1; subst p1
    exact hr.inj b b' y y' l l' h1 h2 q2 p2 he
   ·rw[if_neg hbx']at h2
    obtain⟨l2,o2,p1,p2,_,p4,_⟩:=hr'.live b' y' h2
    rw[k2]at p1; injection p1 with p1; subst p1
    have:g l'.blk=none:=p2.2
    rw[← he,q4]at this; cases this
  ·rw[if_neg hbx]at h1
   obtain⟨l1,o1,q1,q2,_,q4,_⟩:=hr'.live b y h1
   rw[k1]at q1; injection q1 with q1; subst q1
   by_cases hbx':b'∈x
   ·rw[if_pos hbx']at h2
    obtain⟨l2,o2,p1,p2,_,p4,_⟩:=hlive b' y' hbx' h2
    rw[k2]at p1; injection p1 with p1; subst p1
    have:g l.blk=none:=q2.2
    rw[he,p4]at this; cases this
   ·rw[if_neg hbx']at h2
    exact hr'.inj b b' y y' l l' h1 h2 k1 k2 he
 ·rcases hr'.newp B c hB with h1|h1
  ·exact hr.newp B c h1
  ·exact .inr (hfree2 B h1)
end Go.AE
end
