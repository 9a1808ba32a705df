/- Part 11 of the proof: AeW. -/
import Derived.Test.YtfmnflhggplkmaaGreatDoorO10
import Derived.Orders
set_option linter.all false
namespace Go.AE
open Go.RowKit
theorem fold_build {α β:Type} (f:List β→α→β):∀ (l:List α) (acc:List β),(l.foldl (fun acc o=>acc++[f acc o]) acc).length=acc.length+l.length ∧
 (∀ i,i<acc.length→(l.foldl (fun acc o=>acc++[f acc o]) acc)[i]? = acc[i]?) ∧
 ∀ i o,l[i]? = some o→(l.foldl (fun acc o=>acc++[f acc o]) acc)[acc.length+i]? = some (f ((l.foldl (fun acc o=>acc++[f acc o]) acc).take (acc.length+i)) o)
 | [],acc=>⟨by simp,fun _ _=>rfl,fun i o h=>by simp at h⟩
 | x :: l,acc=>by
  obtain⟨h1,h2,h3⟩:=fold_build f l (acc++[f acc x])
  simp only[List.foldl_cons]
  simp only[List.length_append,List.length_cons,List.length_nil,Nat.zero_add]at h1 h2 h3
  refine⟨by rw[h1,List.length_cons]; omega,fun i hi=>by rw[h2 i (by omega),List.getElem?_append_left hi],fun i o ho=>?_⟩
  cases i with
  | zero=>
   simp only[List.getElem?_cons_zero,Option.some.injEq]at ho
   subst ho
   rw[Nat.add_zero,h2 _ (by omega)]
   have:(l.foldl (fun acc o=>acc++[f acc o]) (acc++[f acc x])).take acc.length=acc:=by
    apply List.ext_getElem?
    intro k
    rw[List.getElem?_take]
    split
    ·rename_i hk
     rw[h2 k (by omega),List.getElem?_append_left hk]
    ·rename_i hk
     rw[List.getElem?_eq_none (by omega)]
   rw[this]
   simp
  | succ i=>
   simp only[List.getElem?_cons_succ]at ho
   have:=h3 i o ho
   rw[show acc.length+1+i=acc.length+(i+1) by omega]at this
   exact this
theorem preds_spec {ops:List Oper} {i j:Nat} {o:Oper} (ho:ops[i]? = some o) (hj:j∈(cPreds ops).getD i []):∃ e,e∈o.after.toList∧Region.binds .any e=true∧(e.on=j∨j∈(cPreds ops).getD e.on []):=by
 unfold cPreds at hj ⊢
 obtain⟨h1,_,h3⟩:=fold_build (fun acc (o:Oper)=>onceN [] ((o.after.toList.filter (Region.binds .any)).flatMap fun e=>e.on :: acc.getD e.on [])) ops []
 have h:=h3 i o ho
 simp only[List.length_nil,Nat.zero_add]at h
 generalize hL:ops.foldl (fun acc o=>acc++[onceN [] ((o.after.toList.filter (Region.binds .any)).flatMap fun e=>e.on :: acc.getD e.on [])]) []=L at *
 rw[List.getD,h]at hj
 simp only[Option.getD_some,mem_onceN,List.not_mem_nil,false_or,List.mem_flatMap,List.mem_filter,List.mem_cons]at hj
 obtain⟨e,⟨he1,he2⟩,hjj⟩:=hj
 refine⟨e,he1,he2,?_⟩
 rcases hjj with hjj|hjj
 ·exact .inl hjj.symm
 ·refine .inr ?_
  simp only[List.getD]at hjj ⊢
  rw[List.getElem?_take]at hjj
  split at hjj
  ·exact hjj
  ·simp at hjj
theorem cUns_get {as:List AOper} {preds:List (List Nat)}:∀ (l:List AOper) (k i:Nat),(cUns as preds k l)[i]? = (l[i]?).map fun a=>⟨a.dst,a.op,a.guard,cUn as preds (k+i) a.op⟩
 | [],k,i=>by simp[cUns]
 | a :: l,k,i=>by
  cases i with
  | zero=>simp[cUns]
  | succ i=>
   simp only[cUns,List.getElem?_cons_succ]
   rw[cUns_get l (k+1) i,show k+1+i=k+(i+1) by omega]
theorem cUns_length {as:List AOper} {preds:List (List Nat)}:∀ (l:List AOper) (k:Nat),(cUns as preds k l).length=l.length
 | [],_=>rfl
 | _ :: l,k=>by simp[cUns,cUns_length l (k+1)]
theorem mem_ready {ops:Array Oper} {listed:Array Bool} (hs:listed.size=ops.size) {i:Nat}:i∈Region.ready .any ops listed ↔
 i<ops.size∧listed.getD i false=false ∧ ∀ o,ops[i]? = some o → ∀ e,e∈o.after.toList→Region.binds .any e=true→listed.getD e.on false=true:=by
 unfold Region.ready
 rw[List.mem_filter,List.mem_range]
 constructor
 ·rintro⟨h1,h2⟩
  have hl:i<listed.size:=by rw[hs]; exact h1
  have ho:ops[i]? = some ops[i]:=Array.getElem?_eq_getElem h1
  rw[ho]at h2
  simp only[Option.map_some,Option.getD_some,Bool.and_eq_true,Bool.not_eq_true',Array.all_eq_true',Bool.or_eq_true]at h2
  refine⟨h1,by simpa[Array.getD,hl]using h2.1,fun o ho' e he hb=>?_⟩
  rw[ho]at ho'; injection ho' with ho'; subst ho'
  rcases h2.2 e (by simpa using he)with h|h
  ·rw[hb]at h; cases h
  ·exact h
 ·rintro⟨h1,h2,h3⟩
  have hl:i<listed.size:=by rw[hs]; exact h1
  have ho:ops[i]? = some ops[i]:=Array.getElem?_eq_getElem h1
  refine⟨h1,?_⟩
  rw[ho]
  simp only[Option.map_some,Option.getD_some,Bool.and_eq_true,Bool.not_eq_true',Array.all_eq_true',Bool.or_eq_true]
  refine⟨by simpa[Array.getD,hl]using h2,fun e he=>?_⟩
  cases hb:Region.binds .any e with
  | false=>exact .inl rfl
  | true=>exact .inr (h3 _ ho e (by simpa using he) hb)
theorem all_of_ready {ops:Array Oper} {listed:Array Bool} (hs:listed.size=ops.size) (hlt:∀ (i:Nat) (o:Oper),ops[i]? = some o → ∀ e,e∈o.after.toList→Region.binds .any e=true→e.on<i)
 (hr:Region.ready .any ops listed=[]):∀ i,i<ops.size→listed.getD i false=true:=by
 intro i
 induction i using Nat.strongRecOn with
 | ind i ih=>
  intro hi
  cases hl:listed.getD i false with
  | true=>rfl
  | false=>
   have:i∈Region.ready .any ops listed:=(mem_ready hs).2 ⟨hi,hl,fun o ho e he hb=>ih e.on (hlt i o ho e he hb) (by have:=hlt i o ho e he hb; omega)⟩
   rw[hr]at this
   simp at this
theorem getD_set {listed:Array Bool} {i:Nat} (hs:i<listed.size) (j:Nat):(listed.setIfInBounds i true).getD j false=if i=j then true else listed.getD j false:=by
 rw[Array.getD_eq_getD_getElem?,Array.getD_eq_getD_getElem?,Array.getElem?_setIfInBounds]
 by_cases h:i=j
 ·subst h; simp[hs]
 ·simp[h]
theorem count_set {listed:Array Bool} {n i:Nat} (hi:i<n) (hs:i<listed.size) (hl:listed.getD i false=false) :
 ((List.range n).filter fun j=>!(listed.setIfInBounds i true).getD j false).length<((List.range n).filter fun j=>!listed.getD j false).length:=by
 have e1:((List.range n).filter fun j=>!(listed.setIfInBounds i true).getD j false)=(((List.range n).filter fun j=>!listed.getD j false).filter fun j=>!(listed.setIfInBounds i true).getD j false):=by
  rw[List.filter_filter]
  refine List.filter_congr fun j _=>?_
  rw[getD_set hs]
  by_cases hji:i=j
  ·subst hji
   simp
  ·simp[hji]
 rw[e1]
 refine List.length_filter_lt_length_iff_exists.2 ⟨i,?_,?_⟩
 ·rw[List.mem_filter,List.mem_range]
  exact⟨hi,by simp[hl]⟩
 ·rw[getD_set hs]; simp
section
variable {P:Program} {base:Nat} {as:List AOper} {t0:List AVal} {m0:Mem} {T:Nat→List AVal} {M:Nat→Mem} {V:Nat→AVal} {F:Nat→FT} {ops:Array Oper} {preds:List (List Nat)}
structure Loose (as:List AOper) (F:Nat→FT) (preds:List (List Nat)):Prop where
 slots:∀ i j x y,j<i→as[i]? = some x→as[j]? = some y→j∉preds.getD i []→(∀ d,y.dst=some d→d∉x.looks∧x.dst≠some d) ∧ ∀ d,x.dst=some d→d∉y.looks
 mem:∀ i j x y,j<i→as[i]? = some x→as[j]? = some y→j∉preds.getD i []→(∀ c,(F j).W c=true→(F i).R c=false∧(F i).W c=false)∧(∀ c,(F j).R c=true→(F i).W c=false)∧((F j).isC=true→(F i).isC=false)
theorem opds_look {b:AOper} {x:AOpd} {t t':List AVal} (h:∀ s,s∈b.looks→t.getD s aundef=t'.getD s aundef) (hx:x∈b.op.opds):ev t x=ev t' x:=by
 cases x with
 | tmp i=>
  simp only[ev]
  refine h i ?_
  unfold AOper.looks
  exact List.mem_append_left _ (List.mem_filterMap.2 ⟨_,hx,rfl⟩)
 | const v=>rfl
 | fn f=>rfl
theorem guard_look {b:AOper} {t t':List AVal} (h:∀ s,s∈b.looks→t.getD s aundef=t'.getD s aundef):wantedA t b.guard=wantedA t' b.guard:=by
 unfold wantedA
 cases hg:b.guard with
 | none=>rfl
 | some dw=>
  obtain⟨d,w⟩:=dw
  simp only
  rw[h d (by unfold AOper.looks; rw[hg]; simp)]
theorem draw_main (W:Base) (n0:Nat) (Q:Exit→ASt→Prop) (Φ0:Pers) (ρ0:Rho) (hb0:n0≤base) (hsz:as.length=ops.size)
 (hres:∀ (i:Nat) (o:Oper) (b:AOper),ops[i]? = some o→as[i]? = some b→b.dst=o.dst∧b.op=cOp' P o∧cGuard ops o.guard=some b.guard)
 (hlt:∀ (i:Nat) (o:Oper),ops[i]? = some o → ∀ e,e∈o.after.toList→Region.binds .any e=true→e.on<i)
 (hpre:∀ (i j:Nat) (o:Oper),ops[i]? = some o→j∈preds.getD i [] → ∃ e,e∈o.after.toList∧Region.binds .any e=true∧(e.on=j∨j∈preds.getD e.on []))
 (htr:Trace P base as t0 m0 T M V F) (hlo:Loose as F preds) (hQ:Q .normal ⟨T as.length,M as.length⟩) (hnx:base+as.length≤m0.next) :
 ∀(fuel:Nat) (listed:Array Bool) (t:List AVal) (m:Mem) (Φ:Pers) (ρ:Rho) (a:Act) (w:World),listed.size=ops.size →
  ((List.range ops.size).filter fun j=>!listed.getD j false).length≤fuel→(∀ i j,listed.getD i false=true→j∈preds.getD i []→listed.getD j false=true) →
  StateIs as t0 m0 M V F (fun j=>listed.getD j false) t m→Rel W Φ ρ m w→RL Φ ρ t a.tmps→a.defers=[]→Ext Φ0 ρ0 Φ ρ→KeepN n0 ρ0 ρ →
  (∀ i,i<as.length→listed.getD i false=false→ρ (base+i)=none)→wpAny P .any ops (lift W Φ0 ρ0 n0 Q) fuel listed a w:=by
 have fin:∀ (listed:Array Bool) (t:List AVal) (m:Mem) (Φ:Pers) (ρ:Rho) (a:Act) (w:World),listed.size=ops.size→Region.ready .any ops listed=[] →
  StateIs as t0 m0 M V F (fun j=>listed.getD j false) t m→Rel W Φ ρ m w→RL Φ ρ t a.tmps→a.defers=[]→Ext Φ0 ρ0 Φ ρ→KeepN n0 ρ0 ρ→lift W Φ0 ρ0 n0 Q .normal a w:=by
  intro listed t m Φ ρ a w hs hr hst hrel ht hd he hk
  have hall:=all_of_ready hs hlt hr
  have h1:=state_congr hst (D':=fun j=>decide (j<as.length)) fun j hj=>by rw[hall j (by rw[← hsz]; exact hj)]; simp[hj]
  have h2:=state_seq htr as.length (Nat.le_refl _)
  have e1:t=T as.length:=by
   apply List.ext_getElem?
   intro x
   rcases Nat.lt_or_ge x t0.length with hx|hx
   ·rw[h1.tmp x hx,h2.tmp x hx]
   ·rw[List.getElem?_eq_none (by rw[h1.len]; exact hx),List.getElem?_eq_none (by rw[h2.len]; exact hx)]
  have e2:m=M as.length:=Mem.ext' (fun c=>by rw[h1.mem c,h2.mem c]) (by rw[h1.next,h2.next])
  subst e1; subst e2
  have:=state_next htr h2
  exact⟨_,Φ,ρ,he,hk,by show n0≤(M as.length).next; omega,hrel,ht,hd,hQ⟩
 intro fuel
 induction fuel with
 | zero=>
  intro listed t m Φ ρ a w hs hc hcl hst hrel ht hd he hk hfr
  have hnil:Region.ready .any ops listed=[]:=by
   cases hr:Region.ready .any ops listed with
   | nil=>rfl
   | cons i r=>
    exfalso
    obtain⟨h1,h2,_⟩:=(mem_ready hs).1 (by rw[hr]; simp:i∈Region.ready .any ops listed)
    have:i∈(List.range ops.size).filter fun j=>!listed.getD j false:=List.mem_filter.2 ⟨List.mem_range.2 h1,by simp[h2]⟩
    have:=List.length_pos_of_mem this
    omega
  exact⟨hnil,fin listed t m Φ ρ a w hs hnil hst hrel ht hd he hk⟩
 | succ fuel ih=>
  intro listed t m Φ ρ a w hs hc hcl hst hrel ht hd he hk hfr
  refine⟨fun hnil=>fin listed t m Φ ρ a w hs hnil hst hrel ht hd he hk,fun i hi=>?_⟩
  obtain⟨hi1,hi2,hi3⟩:=(mem_ready hs).1 hi
  have hia:i<as.length:=by rw[hsz]; exact hi1
  have ho:ops[i]? = some ops[i]:=Array.getElem?_eq_getElem hi1
  have hb:as[i]? = some as[i]:=List.getElem?_eq_getElem hia
  generalize ops[i]=o at ho
  generalize as[i]=b at hb
  obtain⟨e1,e2,e3⟩:=hres i o b ho hb
  have hpin:∀ j,j∈preds.getD i []→listed.getD j false=true:=by
   intro j hj
   obtain⟨e,he1,he2,hej⟩:=hpre i j o ho hj
   have hon:=hi3 o ho e he1 he2
   rcases hej with rfl|hej
   ·exact hon
   ·exact hcl _ _ hon hej
  have hl:∀ (j:Nat) (c:AOper),j≠i→listed.getD j false≠decide (j<i)→as[j]? = some c → ∀ d,c.dst=some d→d∉b.looks:=by
   intro j c hji hD hcj d hdj
   rcases Nat.lt_or_gt_of_ne hji with hlt'|hgt
   ·have hDj:listed.getD j false=false:=by
     cases hq:listed.getD j false with
     | false=>rfl
     | true=>rw[hq]at hD; simp[hlt']at hD
    exact((hlo.slots i j b c hlt' hb hcj (fun hp=>by rw[hpin j hp]at hDj; cases hDj)).1 d hdj).1
   ·have hDj:listed.getD j false=true:=by
     cases hq:listed.getD j false with
     | true=>rfl
     | false=>rw[hq]at hD; simp[show ¬j<i by omega]at hD
    exact(hlo.slots j i c b hgt hcj hb (fun hp=>by rw[hcl j i hDj hp]at hi2; cases hi2)).2 d hdj
  have out:∀ (j:Nat),j<as.length→j≠i→listed.getD j false≠decide (j<i) →
   (∀ c,(F j).W c=true→(F i).R c=false∧(F i).W c=false)∧((F j).isC=true→(F i).isC=false):=by
   intro j hj hji hD
   have hy:as[j]? = some as[j]:=List.getElem?_eq_getElem hj
   rcases Nat.lt_or_gt_of_ne hji with hlt'|hgt
   ·have hDj:listed.getD j false=false:=by
     cases hq:listed.getD j false with
     | false=>rfl
     | true=>rw[hq]at hD; simp[hlt']at hD
    obtain⟨h1,_,h3⟩:=hlo.mem i j b _ hlt' hb hy (fun hp=>by rw[hpin j hp]at hDj; cases hDj)
    exact⟨h1,h3⟩
   ·have hDj:listed.getD j false=true:=by
     cases hq:listed.getD j false with
     | true=>rfl
     | false=>rw[hq]at hD; simp[show ¬j<i by omega]at hD
    obtain⟨h1,h2,h3⟩:=hlo.mem j i _ b hgt hy hb (fun hp=>by rw[hcl j i hDj hp]at hi2; cases hi2)
    refine⟨fun c hc=>⟨?_,?_⟩,fun hc=>?_⟩
    ·cases hq:(F i).R c with
     | false=>rfl
     | true=>rw[h2 c hq]at hc; cases hc
    ·cases hq:(F i).W c with
     | false=>rfl
     | true=>rw[(h1 c hq).2]at hc; cases hc
    ·cases hq:(F i).isC with
     | false=>rfl
     | true=>rw[h3 hq]at hc; cases hc
  have hm:∀ (j c:Nat),j<as.length→j≠i→listed.getD j false≠decide (j<i)→((F i).R c=true∨(F i).W c=true)→(F j).W c=false:=by
   intro j c hj hji hD hcF
   cases hw:(F j).W c with
   | false=>rfl
   | true=>
    obtain⟨h1,h2⟩:=(out j hj hji hD).1 c hw
    rcases hcF with h|h
    ·rw[h1]at h; cases h
    ·rw[h2]at h; cases h
  have hcc:∀ (j:Nat),j<as.length→j≠i→listed.getD j false≠decide (j<i)→(F i).isC=true→(F j).isC=false:=by
   intro j hj hji hD hc
   cases hw:(F j).isC with
   | false=>rfl
   | true=>rw[(out j hj hji hD).2 hw]at hc; cases hc
  have hseq:=state_seq htr i (by omega)
  obtain⟨hag,hmm,hnn⟩:=state_agree hst hseq hi2 hl hm hcc
  have hadv1:∀ (j:Nat) (c:AOper),i<j→listed.getD j false=true→as[j]? = some c → ∀ d,b.dst=some d→c.dst≠some d:=fun j c hij hDj hcj d hd'=>
   ((hlo.slots j i c b hij hcj hb (fun hp=>by rw[hcl j i hDj hp]at hi2; cases hi2)).1 d hd').2
  have hadv2:∀ (j c:Nat),i<j→j<as.length→listed.getD j false=true→(F i).W c=true→(F j).W c=false:=fun j c hij hj hDj hcF=>hm j c hj (by omega) (by rw[hDj]; simp; omega) (.inr hcF)
  have hadv3:∀ (j:Nat),i<j→j<as.length→listed.getD j false=true→(F i).isC=true→(F j).isC=false:=fun j hij hj hDj hcF=>hcc j hj (by omega) (by rw[hDj]; simp; omega) hcF
  have hmn:=state_next htr hst
  obtain⟨_,hstep⟩:=htr.step i b hb
  have hls:i<listed.size:=by rw[hs]; exact hi1
  have hset:∀ j,(listed.setIfInBounds i true).getD j false=(listed.getD j false||j == i):=by
   intro j
   rw[getD_set hls]
   by_cases hji:i=j
   ·subst hji; simp
   ·have:(j == i)=false:=beq_false_of_ne fun e=>hji e.symm
    simp[hji,this]
  have hcnt:((List.range ops.size).filter fun j=>!(listed.setIfInBounds i true).getD j false).length≤fuel:=by
   have:=count_set (listed:=listed) (n:=ops.size) hi1 hls hi2
   omega
  have hcl':∀ i' j,(listed.setIfInBounds i true).getD i' false=true→j∈preds.getD i' []→(listed.setIfInBounds i true).getD j false=true:=by
   intro i' j h1 h2
   rw[hset]at h1 ⊢
   by_cases hii:i'=i
   ·subst hii
    rw[hpin j h2]; rfl
   ·rw[beq_false_of_ne hii,Bool.or_false]at h1
    rw[hcl i' j h1 h2]; rfl
  have hfr':∀ (ρ':Rho),(∀ c,c<m.next→c≠base+i→ρ c=none→ρ' c=none) → ∀ i',i'<as.length→(listed.setIfInBounds i true).getD i' false=false→ρ' (base+i')=none:=by
   intro ρ' hρ i' hi' hl'
   rw[hset]at hl'
   have hne:i'≠i:=fun e=>by subst e; simp at hl'
   rw[beq_false_of_ne hne,Bool.or_false]at hl'
   exact hρ _ (by omega) (by omega) (hfr i' hi' hl')
  have next:∀ (m':Mem) (Φ':Pers) (ρ':Rho) (u:Value) (w':World),Ext Φ ρ Φ' ρ'→(∀ c,c<m.next→c≠base+i→ρ c=none→ρ' c=none)→Rel W Φ' ρ' m' w'→R Φ' ρ' (V i) u →
   (∀ c,(F i).W c=false→m'.get c=m.get c)→(∀ c,(F i).W c=true→m'.get c=(M (i+1)).get c)→((F i).isC=true→m'.next=(M (i+1)).next)→((F i).isC=false→m'.next=m.next) →
   wpAny P .any ops (lift W Φ0 ρ0 n0 Q) fuel (listed.setIfInBounds i true) (a.put o.dst u) w':=by
   intro m' Φ' ρ' u w' hE hρ hr' hx hout hin hnx1 hnx0
   refine ih (listed.setIfInBounds i true) (put t b.dst (V i)) m' Φ' ρ' _ w' (by simpa using hs) hcnt hcl' ?_ hr' (by rw[← e1]; exact(ht.ext hE).put b.dst hx) (by rw[put_defers]; exact hd) (he.trans hE)
    (fun c hc h0=>hρ c (by omega) (by omega) (hk c hc h0)) (hfr' ρ' hρ)
   exact state_congr (state_adv hst hb hadv1 hadv2 hadv3 hout hin hnx1 hnx0) fun j _=>(hset j).symm
  have hni:=hfr i hia hi2
  have hlt':base+i<m.next:=by omega
  unfold wpOp
  rw[ho]
  simp only
  rcases hstep with⟨hw,hV,hM,hF⟩|⟨hw,_,⟨f,xs,g,args,wl,x,hop,hcal,hF,m3,hid,c1,c2,c3,c4,c5,hA⟩|⟨hs',hF⟩⟩
  ·rw[wanted_ok ht e3 (by rw[guard_look hag]; exact hw),if_neg (by simp)]
   exact next m Φ ρ undef w (.refl _ _) (fun _ _ _ h=>h) hrel (by rw[hV]; exact R_undef _ _) (fun _ _=>rfl) (fun c hc=>by rw[hF]at hc; cases hc) (fun hc=>by rw[hF]at hc; cases hc) (fun _=>rfl)
  ·rw[wanted_ok ht e3 (by rw[guard_look hag]; exact hw),if_pos rfl]
   refine .inl ?_
   have hcal':callee t f xs=some (g,args):=by
    rw[callee_ev (t2:=T i) fun x hx=>opds_look hag (by rw[hop]; exact hx)]
    exact hcal
   have hnn':m.next=(M i).next:=hnn (by rw[hF]; rfl)
   have hmx:∀ c,c∉x→m.get c=(M i).get c:=fun c hc=>hmm c (.inl (by rw[hF]; simp[FT.R,hc]))
   ·have hA2:=call_frame hid c1 c2 hA hmx hnn'
    refine op_call ht hrel hni hlt' o (by rw[← e2]; exact hop) hcal' hA2 fun Φ' ρ' y m' u w' hE hfr2 hr' hx hnx' hK=>?_
    obtain⟨rfl,rfl⟩:=hK
    refine next _ Φ' ρ' u w' hE hfr2 hr' hx (fun c hc=>?_) (fun c hc=>?_) (fun _=>c3.symm) (fun hc=>by rw[hF]at hc; cases hc)
    ·simp only
     by_cases hcx:c∈x
     ·rw[if_pos hcx]
     ·rw[if_neg hcx,hmx c hcx]
      rw[hF]at hc
      simp only[FT.W,Bool.or_eq_false_iff,decide_eq_false_iff_not,Nat.not_le]at hc
      exact c5 c (fun hm=>by rw[List.contains_iff_mem.2 hm]at hc; cases hc.1) hc.2 hcx
    ·simp only
     rw[c4 c]
     by_cases hcx:c∈x
     ·rw[if_pos hcx,if_pos hcx]; exact hmm c (.inr hc)
     ·rw[if_neg hcx,if_neg hcx]
  ·rw[wanted_ok ht e3 (by rw[guard_look hag]; exact hw),if_pos rfl]
   refine .inl ?_
   have hev:∀ x,x∈b.op.opds→ev t x=ev (T i) x:=fun x hx=>opds_look hag hx
   obtain⟨m2,hs2,hsame⟩:=stepA_local (m2:=m) (fun c hc=>hmm c (.inl (by rw[hF]; simp[FT.R,hc]))) (fun c hc=>hmm c (.inr (by rw[hF]; simp[FT.W,hc]))) hs'
   rw[← stepA_ev hev,e2]at hs2
   refine op_step ht hrel hni hlt' o hs2 fun Φ' ρ' u w' hE hfr2 hr' hx=>?_
   refine next m2 Φ' ρ' u w' hE (fun c _ hne h0=>hfr2 c hne h0) hr' hx (fun c hc=>hsame.out2 c fun hm=>?_) (fun c hc=>hsame.ins c ?_) (fun hc=>by rw[hF]at hc; cases hc) (fun _=>hsame.n2)
   ·rw[hF]at hc; simp only[FT.W]at hc; rw[List.contains_iff_mem.2 hm]at hc; cases hc
   ·rw[hF]at hc; simp only[FT.W,List.contains_iff_mem]at hc; exact hc
end
end Go.AE
