/- Part 16 of the proof: AeT. -/
import Derived.Test.YtfmnflhggplkmaaGreatDoorU14
import Derived.Test.YtfmnflhggplkmaaGreatDoorU15
set_option linter.all false
namespace Go.AE
open Go.RowKit
section
variable {P:Program} {W:Base} {Φ:Pers} {ρ:Rho} {w:World} {m m':Mem} {x:AVal} {a:Act} {t:List AVal} {ops:Array Oper}
theorem RL.put {v:AVal} {u:Value} (d:Option Nat) (ht:RL Φ ρ t a.tmps) (hv:R Φ ρ v u):RL Φ ρ (put t d v) (a.put d u).tmps:=by
 cases d with
 | none=>exact ht
 | some d=>
  refine⟨by simp[AE.put,Act.put,ht.1],fun i x y hx hy=>?_⟩
  simp only[AE.put,Act.put]at hx hy
  rw[List.getElem?_set]at hx
  rw[Array.getElem?_setIfInBounds]at hy
  by_cases h:d=i
  ·rw[if_pos h]at hx hy
   subst h
   split at hx
   ·split at hy
    ·injection hx with hx; injection hy with hy; subst hx; subst hy; exact hv
    ·cases hy
   ·cases hx
  ·rw[if_neg h]at hx hy
   exact ht.2 i x y hx hy
theorem put_defers (d:Option Nat) (u:Value):(a.put d u).defers=a.defers:=by
 cases d<;>rfl
theorem wanted_ok (ht:RL Φ ρ t a.tmps) {o:Oper} {g:Option (Nat×Bool)} {b:Bool} (hg:cGuard ops o.guard=some g) (h:wantedA t g=some b):Region.wanted o (yielded ops a.tmps)=b:=by
 unfold Region.wanted
 cases hog:o.guard with
 | none=>
  simp only[hog,cGuard,Option.some.injEq]at hg
  subst hg
  simp only[wantedA,Option.some.injEq]at h
  exact h
 | some jw=>
  obtain⟨j,want⟩:=jw
  simp only[hog,cGuard]at hg
  split at hg<;>first|(cases hg; done)|skip
  rename_i d hd
  injection hg with hg
  subst hg
  simp only[yielded,hd,Option.bind_some]
  simp only[wantedA]at h
  have hR:=ht.get d
  split at h<;>first|(cases h; done)|skip
  ·rename_i b0 hb0
   injection h with h
   subst h
   rw[hb0]at hR
   have hv:=bool_R hR
   have:a.tmps[d]? = some (.bool b0):=by
    rcases Nat.lt_or_ge d a.tmps.size with hlt|hge
    ·rw[Array.getElem?_eq_getElem hlt]
     simpa[Array.getD,hlt]using hv
    ·simp[Array.getD,Nat.not_lt.2 hge,undef]at hv
   rw[this]
   simp
  ·rename_i hb0
   injection h with h
   subst h
   rw[hb0]at hR
   have hne:∀ b,a.tmps[d]? ≠ some (.bool b):=by
    intro b hb
    have:a.tmps.getD d undef=.bool b:=by
     have hlt:=(Array.getElem?_eq_some_iff.1 hb).1
     have:=(Array.getElem?_eq_some_iff.1 hb).2
     simpa[Array.getD,hlt]using this
    rw[this]at hR
    cases hR
   cases hq:a.tmps[d]? with
   | none=>simp
   | some v=>
    cases v<;>first|(exact absurd hq (hne _))|simp
theorem op_step {id:Nat} {K:Act→World→Prop} {Q:Exit→Act→World→Prop} (ht:RL Φ ρ t a.tmps) (hr:Rel W Φ ρ m w) (hn:ρ id=none) (hlt:id<m.next) (o:Oper)
 (h:stepA id t m (cOp' P o)=some (x,m'))
 (hK:∀ Φ' ρ' u w',Ext Φ ρ Φ' ρ'→(∀ b,b≠id→ρ b=none→ρ' b=none)→Rel W Φ' ρ' m' w'→R Φ' ρ' x u→K (a.put o.dst u) w'):o.wp P a w K Q:=by
 unfold cOp' at h
 cases hc:cOp P o with
 | none=>simp[hc,stepA]at h
 | some op=>
  simp only[hc,Option.getD_some]at h
  obtain⟨v,w',Φ',ρ',hrun,he,hk,hr',hx⟩:=step_ok ht hr hn hlt o op hc h
  unfold Oper.wp
  rcases hrun with hrun|⟨hrun,rfl⟩
  ·rw[hrun]
   exact hK _ _ _ _ he hk hr' hx
  ·rw[hrun]
   exact hK _ _ _ _ he hk hr' hx
theorem op_call {id:Nat} {K:Act→World→Prop} {Q:Exit→Act→World→Prop} (ht:RL Φ ρ t a.tmps) (hr:Rel W Φ ρ m w) (hn:ρ id=none) (hlt:id<m.next) (o:Oper) {f:AOpd} {xs:List AOpd} (ho:cOp' P o=.call f xs) {g:FuncId} {args:List AVal} (hg:callee t f xs=some (g,args))
 {KA:AVal→Mem→Prop} (h:ACalls P g args m [id] KA)
 (hK:∀ Φ' ρ' x m' u w',Ext Φ ρ Φ' ρ'→(∀ b,b<m.next→b≠id→ρ b=none→ρ' b=none)→Rel W Φ' ρ' m' w'→R Φ' ρ' x u→m.next≤m'.next→KA x m'→K (a.put o.dst u) w'):o.wp P a w K Q:=by
 have hcall:∃ c of,o.op=.call c∧c.callee=.value of∧cOpd of=some f∧cOpds c.args.toList=some xs:=by
  unfold cOp' at ho
  cases hc:cOp P o with
  | none=>simp[hc]at ho
  | some op=>
   simp only[hc,Option.getD_some]at ho
   subst ho
   unfold cOp at hc
   split at hc<;>first|(cases hc; done)|(simp only[Option.map_eq_some_iff]at hc; obtain⟨_,_,hc⟩:=hc; cases hc; done)|skip
   case h_26 c hoc=>
    unfold cCall at hc
    split at hc
    ·rename_i of hcal
     split at hc
     ·rename_i g' xs' hg' hxs'
      injection hc with hc
      injection hc with h1 h2
      subst h1; subst h2
      exact⟨c,of,hoc,hcal,hg',hxs'⟩
     ·cases hc
    all_goals (repeat' (split at hc<;>first|(cases hc; done)|skip))
    all_goals (first|(cases hc; done)|(simp only[Option.map_eq_some_iff]at hc; obtain⟨_,_,hc⟩:=hc; cases hc; done)|skip)
   all_goals (repeat' (split at hc<;>first|(cases hc; done)|skip))
   all_goals (first|(cases hc; done)|(simp only[Option.map_eq_some_iff]at hc; obtain⟨_,_,hc⟩:=hc; cases hc; done)|skip)
 obtain⟨c,of,hop,hcal,hof,hxs⟩:=hcall
 have hfv:=ev_R ht hof
 unfold callee at hg
 split at hg<;>first|(cases hg; done)|skip
 rename_i g' first cap hev
 injection hg with hg
 injection hg with h1 h2
 subst h1; subst h2
 rw[hev]at hfv
 generalize hvv:a.eval of=vv at hfv
 cases hfv with
 | func _ _ _ vf vc hf hc hfr hcr=>
  have hargs:=RL_map ht hxs
  have hRL:RL Φ ρ (first++xs.map (ev t)++cap) (vf++c.args.map a.eval++vc):=by
   refine⟨by simp only[Array.size_append,List.length_append]; rw[hf,hc,hargs.1],fun i y v hy hv=>?_⟩
   have hl2:(vf++c.args.map a.eval).size=(first++xs.map (ev t)).length:=by simp only[Array.size_append,List.length_append]; rw[hf,hargs.1]
   rw[List.getElem?_append]at hy
   rw[Array.getElem?_append]at hv
   rw[hl2]at hv
   split at hy
   ·rename_i hlt'
    rw[if_pos hlt']at hv
    rw[List.getElem?_append]at hy
    rw[Array.getElem?_append,hf]at hv
    split at hy
    ·rename_i h3
     rw[if_pos h3]at hv
     exact hfr i y v hy hv
    ·rename_i h3
     rw[if_neg h3]at hv
     exact hargs.2 _ y v hy hv
   ·rename_i hge
    rw[if_neg hge]at hv
    exact hcr _ y v hy hv
  have hC:=h.2 W Φ ρ _ w hr hRL (fun b hb=>by simp only[List.mem_singleton]at hb; subst hb; exact⟨hn,hlt⟩)
  obtain⟨fn,hfn,hname,hbody⟩:=h.1
  unfold Oper.wp
  have hrun:(execOp a.eval o).run P w=.ok (.enter g' (vf++c.args.map a.eval++vc)) w:=by
   unfold execOp
   rw[hop]
   simp only[resolve,hcal,hvv,Deferred.ofValue,Sem.run_bind,Sem.run_pure,Result.andThen_ok,invoke,callFunc]
   cases hb:fn.body with
   | none=>rw[hb]at hbody; cases hbody
   | some b=>simp[program,Sem.run,hfn,hb]; simpa using hname
  rw[hrun]
  refine hC.mono fun e w' he=>?_
  obtain⟨v,r,m',Φ',ρ',rfl,h1,h2,h3,h4,h5,h6⟩:=he
  exact hK Φ' ρ' r m' v w' h1 (fun b hb hne=>h2 b hb (by simpa using hne)) h3 h4 h5 h6
theorem cOpers_get (P:Program) (ops:Array Oper):∀ (l:List Oper) (as:List AOper),cOpers P ops l=some as →
 as.length=l.length ∧ ∀(i:Nat) (o:Oper) (b:AOper),l[i]? = some o→as[i]? = some b→b.dst=o.dst∧b.op=cOp' P o∧cGuard ops o.guard=some b.guard
 | [],as,h=>by
  simp only[cOpers,Option.some.injEq]at h
  subst h
  exact⟨rfl,fun i o b hi=>by simp at hi⟩
 | o :: l,as,h=>by
  simp only[cOpers]at h
  cases hg:cGuard ops o.guard with
  | none=>simp[hg]at h
  | some g=>
   cases hr:cOpers P ops l with
   | none=>simp[hg,hr]at h
   | some as'=>
    simp only[hg,hr,Option.some.injEq]at h
    subst h
    obtain⟨h1,h2⟩:=cOpers_get P ops l as' hr
    refine⟨by simp[h1],fun i o' b hi hb=>?_⟩
    cases i with
    | zero=>
     simp only[List.getElem?_cons_zero,Option.some.injEq]at hi hb
     subst hi; subst hb
     exact⟨rfl,rfl,hg⟩
    | succ i=>
     simp only[List.getElem?_cons_succ]at hi hb
     exact h2 i o' b hi hb
theorem wops_cons {base i:Nat} {b:AOper} {rest:List AOper} {K:ASt→Prop} (h:wops P base (b :: rest) i K t m) :
 (wantedA t b.guard=some false∧wops P base rest (i+1) K (put t b.dst aundef) m) ∨
 (wantedA t b.guard=some true∧((∃ f xs g args,b.op=.call f xs∧callee t f xs=some (g,args)∧ACalls P g args m [base+i] fun v m'=>wops P base rest (i+1) K (put t b.dst v) m') ∨
   (∃ v m',stepA (base+i) t m b.op=some (v,m')∧wops P base rest (i+1) K (put t b.dst v) m'))):=by
 simp only[wops]at h
 cases hw:wantedA t b.guard with
 | none=>simp[hw]at h
 | some q=>
  cases q with
  | false=>simp only[hw]at h; exact .inl ⟨rfl,h⟩
  | true=>
   simp only[hw]at h
   refine .inr ⟨rfl,?_⟩
   have other:∀ op,b.op=op→(match stepA (base+i) t m op with|some (v,m')=>wops P base rest (i+1) K (put t b.dst v) m'|none=>False) →
    ∃ v m',stepA (base+i) t m op=some (v,m')∧wops P base rest (i+1) K (put t b.dst v) m':=by
    intro op _ hh
    cases hs:stepA (base+i) t m op with
    | none=>simp[hs]at hh
    | some r=>obtain ⟨v,m'⟩:=r; simp only[hs]at hh; exact⟨v,m',rfl,hh⟩
   cases hop:b.op with
   | call f xs=>
    simp only[hop]at h
    cases hc:callee t f xs with
    | none=>simp[hc]at h
    | some r=>
     obtain⟨g,args⟩:=r
     simp only[hc]at h
     exact .inl ⟨f,xs,g,args,rfl,hc,h⟩
   | _=>rw[hop]at h; exact .inr (other _ hop h)
theorem stepA_next {id:Nat} {op:AOp} {v:AVal} (h:stepA id t m op=some (v,m')):m'.next=m.next:=by
 obtain⟨_,_,h2⟩:=stepA_local (m2:=m) (fun _ _=>rfl) (fun _ _=>rfl) h
 exact h2.n1
theorem plain_sound (W:Base) (base:Nat) (n0:Nat) (ops:Array Oper) (Q:Exit→ASt→Prop) (Φ0:Pers) (ρ0:Rho) (hb:n0≤base) :
 ∀(l:List Oper) (as:List AOper) (i:Nat) (t:List AVal) (m:Mem) (Φ:Pers) (ρ:Rho) (a:Act) (w:World),
  as.length=l.length→(∀(j:Nat) (o:Oper) (b:AOper),l[j]? = some o→as[j]? = some b→b.dst=o.dst∧b.op=cOp' P o∧cGuard ops o.guard=some b.guard) →
  wops P base as i (Q .normal) t m→Rel W Φ ρ m w→RL Φ ρ t a.tmps→a.defers=[]→Ext Φ0 ρ0 Φ ρ→KeepN n0 ρ0 ρ→(∀ j,i≤j→j<i+as.length→ρ (base+j)=none)→base+i+as.length≤m.next→n0≤m.next →
  wpList P ops (lift W Φ0 ρ0 n0 Q) l a w
 | [],[],i,t,m,Φ,ρ,a,w,_,_,h,hr,ht,hd,he,hk,_,_,hn=>⟨⟨t,m⟩,Φ,ρ,he,hk,hn,hr,ht,hd,h⟩
 | [],_ :: _,_,_,_,_,_,_,_,hl,_,_,_,_,_,_,_,_,_,_=>by simp at hl
 | _ :: _,[],_,_,_,_,_,_,_,hl,_,_,_,_,_,_,_,_,_,_=>by simp at hl
 | o :: l,b :: as,i,t,m,Φ,ρ,a,w,hl,hg,h,hr,ht,hd,he,hk,hfree,hnx,hn=>by
  obtain⟨e1,e2,e3⟩:=hg 0 o b rfl rfl
  have hg':∀ (j:Nat) (o:Oper) (b:AOper),l[j]? = some o→as[j]? = some b→b.dst=o.dst∧b.op=cOp' P o∧cGuard ops o.guard=some b.guard:=fun j o b ho hb=>hg (j+1) o b (by simpa using ho) (by simpa using hb)
  have hl':as.length=l.length:=by simpa using hl
  simp only[List.length_cons]at hnx hfree
  have hlt:base+i<m.next:=by omega
  have hni:ρ (base+i)=none:=hfree i (Nat.le_refl _) (by omega)
  unfold wpList
  rcases wops_cons h with⟨hw,h'⟩|⟨hw,h'⟩
  ·rw[wanted_ok ht e3 hw,if_neg (by simp)]
   rw[← e1]
   exact plain_sound W base n0 ops Q Φ0 ρ0 hb l as (i+1) _ m Φ ρ _ w hl' hg' h' hr (ht.put b.dst (R_undef Φ ρ)) (by rw[put_defers]; exact hd) he hk (fun j h1 h2=>hfree j (by omega) (by omega)) (by omega) hn
  ·rw[wanted_ok ht e3 hw,if_pos rfl]
   refine .inl ?_
   rcases h' with⟨f,xs,g,args,hop,hcal,hA⟩|⟨v,m',hs,h'⟩
   ·refine op_call ht hr hni hlt o (by rw[← e2]; exact hop) hcal hA fun Φ' ρ' x m' u w' hE hfr hr' hx hnx' hW=>?_
    rw[← e1]
    exact plain_sound W base n0 ops Q Φ0 ρ0 hb l as (i+1) _ m' Φ' ρ' _ w' hl' hg' hW hr' ((ht.ext hE).put b.dst hx) (by rw[put_defers]; exact hd) (he.trans hE) (fun c hc h0=>hfr c (by omega) (by omega) (hk c hc h0))
     (fun j h1 h2=>hfr _ (by omega) (by omega) (hfree j (by omega) (by omega))) (by omega) (by omega)
   ·have hnx':=stepA_next hs
    rw[e2]at hs
    refine op_step ht hr hni hlt o hs fun Φ' ρ' u w' hE hfr hr' hx=>?_
    rw[← e1]
    exact plain_sound W base n0 ops Q Φ0 ρ0 hb l as (i+1) _ m' Φ' ρ' _ w' hl' hg' h' hr' ((ht.ext hE).put b.dst hx) (by rw[put_defers]; exact hd) (he.trans hE) (fun c hc h0=>hfr c (by omega) (hk c hc h0))
     (fun j h1 h2=>hfr _ (by omega) (hfree j (by omega) (by omega))) (by rw[hnx']; omega) (by rw[hnx']; exact hn)
theorem Rel.at_ {n:Nat} (h:Rel W Φ ρ m w) (hn:m.next≤n):Rel W Φ ρ (m.at n) w:=
 ⟨h.base,h.pers,h.live,h.inj,fun b l hb=>by have:=h.fresh b l hb; simp only[Mem.next_at]; omega,h.newp⟩
theorem region_plain {id:Nat} {Q:Exit→ASt→Prop} {σ:ASt} (h:wpc P (cCode P (.region id ops false)) Q σ):AWp P (.region id ops false) Q σ:=by
 intro W Φ ρ a w hr ht hd
 simp only[cCode]at h
 cases hc:cOpers P ops ops.toList with
 | none=>simp[hc,wpc]at h
 | some as=>
  simp only[hc,wpc]at h
  obtain⟨h1,h2⟩:=cOpers_get P ops _ _ hc
  refine wp_region_list (plain_sound W σ.m.next σ.m.next ops Q Φ ρ (Nat.le_refl _) ops.toList as 0 σ.t _ Φ ρ a w h1 h2 h (hr.at_ (by omega)) ht hd (.refl _ _) (.refl _ _) ?_ (by simp) (by simp))
  intro j _ _
  cases hq:ρ (σ.m.next+j)with
  | none=>rfl
  | some l=>have:=hr.fresh _ _ hq; omega
end
end Go.AE
