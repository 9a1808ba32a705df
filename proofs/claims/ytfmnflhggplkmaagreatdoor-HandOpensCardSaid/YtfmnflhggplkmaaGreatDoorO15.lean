/- Part 15 of the proof: AeRunD, AeRunC. -/
import Derived.Test.YtfmnflhggplkmaaGreatDoorO14
set_option linter.all false
section
namespace Go.AE
open Go.RowKit
variable {P:Program}
theorem mem1_spec {x:Nat}:∀ {l:List Nat},(mem1 x l=true→in1 x l∧x∈l)∧(mem1 x l=false→apart1 x l∧x∉l)
 | []=>⟨fun h=>(by cases h),fun _=>⟨trivial,by simp⟩⟩
 | y :: r=>by
  have ih:=mem1_spec (x:=x) (l:=r)
  simp only[mem1]
  cases hb:Nat.beq x y with
  | true=>
   have:=Nat.eq_of_beq_eq_true hb
   exact⟨fun _=>⟨.inl this,by simp[this]⟩,fun h=>(by cases h)⟩
  | false=>
   have hne:x≠y:=fun e=>by subst e; rw[Nat.beq_refl]at hb; cases hb
   refine⟨fun h=>?_,fun h=>?_⟩
   ·obtain⟨h1,h2⟩:=ih.1 h
    exact⟨.inr h1,List.mem_cons_of_mem _ h2⟩
   ·obtain⟨h1,h2⟩:=ih.2 h
    exact⟨⟨hne,h1⟩,by simp[hne,h2]⟩
theorem apartB_spec:∀ {xs l:List Nat},apartB xs l=true→apartL xs l
 | [],_,_=>trivial
 | x :: r,l,h=>by
  simp only[apartB]at h
  cases hb:mem1 x l with
  | true=>rw[hb]at h; cases h
  | false=>rw[hb]at h; exact⟨(mem1_spec.2 hb).1,apartB_spec h⟩
theorem belowB_spec {n:Nat}:∀ {l:List Nat},belowB n l=true→belowL n l
 | [],_=>trivial
 | x :: r,h=>by
  simp only[belowB]at h
  cases hb:Nat.ble n x with
  | true=>rw[hb]at h; cases h
  | false=>rw[hb]at h; exact⟨ble_false hb,belowB_spec h⟩
theorem subB_spec:∀ {xs l:List Nat},subB xs l=true→subL xs l
 | [],_,_=>trivial
 | x :: r,l,h=>by
  simp only[subB]at h
  cases hb:mem1 x l with
  | false=>rw[hb]at h; cases h
  | true=>rw[hb]at h; exact⟨(mem1_spec.1 hb).1,subB_spec h⟩
theorem FT.indepB_spec {f g:FT} (h:FT.indepB f g=true):FT.indep f g:=by
 cases f<;>cases g<;>simp only[FT.indepB,Bool.and_eq_true]at h
 ·exact⟨apartB_spec h.1,apartB_spec h.2⟩
 ·exact⟨apartB_spec h.1.1.1.1,belowB_spec h.1.1.1.2,apartB_spec h.1.1.2,belowB_spec h.1.2,subB_spec h.2⟩
 ·exact⟨apartB_spec h.1.1.1.1,belowB_spec h.1.1.1.2,apartB_spec h.1.1.2,belowB_spec h.1.2,subB_spec h.2⟩
 ·cases h
theorem indepLB_spec {fs:List FT} {ft:FT}:∀ {un:List Nat},indepLB fs ft un=true→indepL fs ft un
 | [],_=>trivial
 | i :: r,h=>by
  simp only[indepLB,Bool.and_eq_true]at h
  exact⟨FT.indepB_spec h.1,indepLB_spec h.2⟩
theorem okX_spec {id:Nat}:∀ {x:List Nat},okX id x=true→id∉x ∧ ∀ c,c∈x→c<bound
 | [],_=>⟨by simp,fun c hc=>by simp at hc⟩
 | c :: r,h=>by
  simp only[okX]at h
  cases hb:Nat.ble bound c with
  | true=>rw[hb]at h; cases h
  | false=>
   rw[hb]at h
   simp only[cond_false]at h
   cases hq:Nat.beq c id with
   | true=>rw[hq]at h; cases h
   | false=>
    rw[hq]at h
    obtain⟨h1,h2⟩:=okX_spec (x:=r) h
    have hne:id≠c:=fun e=>by subst e; rw[Nat.beq_refl]at hq; cases hq
    exact⟨by simp[hne,h1],fun b hb'=>by
     simp only[List.mem_cons]at hb'
     rcases hb' with rfl|hb'
     ·exact ble_false hb
     ·exact h2 b hb'⟩
theorem lessT_ok:∀ (x:List Nat) (m:TM),(∀ c,c∈x→c<bound)→(lessT m x).mem=m.mem.less x∧(lessT m x).next=m.next
 | [],m,_=>⟨Mem.ext' (fun c=>by simp[lessT,Mem.less]) rfl,rfl⟩
 | b :: r,m,h=>by
  obtain⟨h1,h2⟩:=lessT_ok r (m.set b none) (fun c hc=>h c (List.mem_cons_of_mem _ hc))
  simp only[lessT]
  refine⟨?_,h2⟩
  rw[h1,TM.set_mem_none (h b (by simp))]
  refine Mem.ext' (fun c=>?_) rfl
  simp only[Mem.less,Mem.get_del,List.mem_cons]
  by_cases hc:c=b
  ·subst hc; simp
  ·by_cases hcr:c∈r<;>simp[hc,hcr]
theorem backT_ok (m0:TM):∀ (x:List Nat) (m:TM),(∀ c,c∈x→c<bound)→(backT m0 m x).next=m.next∧(∀ c,(backT m0 m x).tr.get c=if c∈x then m0.tr.get c else m.tr.get c)
 | [],m,_=>⟨rfl,fun c=>by simp[backT]⟩
 | b :: r,m,hx=>by
  obtain⟨h1,h2⟩:=backT_ok m0 r (m.set b (m0.tr.get b)) (fun c hc=>hx c (List.mem_cons_of_mem _ hc))
  simp only[backT]
  refine⟨h1,fun c=>?_⟩
  rw[h2 c]
  have hset:(m.set b (m0.tr.get b)).tr.get c=if c=b then m0.tr.get b else m.tr.get c:=Tr.get_set depth _ b _ c (bound_lt (hx b (by simp)))
  by_cases hcr:c∈r
  ·rw[if_pos hcr,if_pos (List.mem_cons_of_mem _ hcr)]
  ·rw[if_neg hcr,hset]
   by_cases hcb:c=b
   ·subst hcb; simp
   ·rw[if_neg hcb,if_neg (by simp[hcb,hcr])]
theorem noneT_spec {m:TM}:∀ {x:List Nat},noneT m x=true → ∀ c,c∈x→m.tr.get c=none
 | [],_,c,hc=>by simp at hc
 | b :: r,h,c,hc=>by
  simp only[noneT]at h
  split at h<;>first|(cases h; done)|skip
  rename_i hb
  simp only[List.mem_cons]at hc
  rcases hc with rfl|hc
  ·exact hb
  ·exact noneT_spec h c hc
theorem footWD_eq (id:Nat) (t:List AVal) (op:AOp):footW id t op=footWD id (ev t) op:=by cases op<;>rfl
theorem footRD_eq (t:List AVal) (op:AOp):footR t op=footRD (ev t) op:=by cases op<;>rfl
theorem runD_ok {call:Caller} (hcall:CallerOk P call) {n lim base:Nat} (hn:n≤bound):∀ (ops:List AOper) (fs:List FT) (s s':RS),TOk n s.t→lim≤s.m.next →
 (ops.all fun o=>match o.dst with|some d=>decide (d<n)|none=>true)=true→runD call lim base ops fs s=some s' →
 RunOk n lim s s' ∧ ∀ K:ASt→Prop,K (s'.st n)→dops P base ops fs K (toL n s.t) s.m.mem
 | [],fs,s,s',ht,_,_,h=>by
  simp only[runD,Option.some.injEq]at h
  subst h
  exact⟨⟨ht,Nat.le_refl _,fun c _ hw=>⟨hw,rfl⟩⟩,fun K hK=>hK⟩
 | o :: r,fs,s,s',ht,hlim,hd,h=>by
  simp only[List.all_cons,Bool.and_eq_true]at hd
  obtain⟨hd1,hd2⟩:=hd
  have hdst:=dst_of hd1
  simp only[runD]at h
  cases hw:wantedT s.t o.guard with
  | none=>simp[hw]at h
  | some q=>
   have hwA:wantedA (toL n s.t) o.guard=some q:=by rw[wantedT_eq ht]; exact hw
   cases q with
   | false=>
    simp only[hw]at h
    obtain⟨p1,p2⟩:=putT_ok (v:=aundef) hn ht hdst
    obtain⟨h1,h2⟩:=runD_ok hcall hn r _ ⟨putT s.t o.dst aundef,s.m,s.wl⟩ s' p1 hlim hd2 h
    refine⟨⟨h1.t,h1.next,h1.keep⟩,fun K hK=>?_⟩
    simp only[dops,hwA]
    rw[← p2]
    exact h2 K hK
   | true=>
    simp only[hw]at h
    by_cases hcl:∃ f xs,o.op=.call f xs
    ·obtain⟨f,xs,hop⟩:=hcl
     simp only[hop]at h
     cases hc:calleeT s.t f xs with
     | none=>simp[hc]at h
     | some ga=>
      obtain⟨g,args⟩:=ga
      simp only[hc]at h
      generalize hx:o.un.map (base + ·)++laterX base fs.length r (fs.length+1)=x at h
      cases hcc:call g args (lessT s.m x)with
      | none=>simp[hcc]at h
      | some vmw=>
       obtain⟨v,m',wl⟩:=vmw
       simp only[hcc]at h
       cases hchk:(indepLB fs (.call wl x s.m.next) o.un&&okX (base+fs.length) x&&noneT m' x)with
       | false=>rw[hchk]at h; cases h
       | true=>
        rw[hchk]at h
        simp only[cond_true]at h
        simp only[Bool.and_eq_true]at hchk
        obtain⟨⟨hi,hX⟩,hN⟩:=hchk
        obtain⟨hid,hbx⟩:=okX_spec hX
        obtain⟨l1,l2⟩:=lessT_ok x s.m hbx
        obtain⟨q1,q2,q3⟩:=hcall g args _ v m' wl hcc
        obtain⟨b1,b2⟩:=backT_ok s.m x m' hbx
        obtain⟨p1,p2⟩:=putT_ok (v:=v) hn ht hdst
        rw[l2]at q1 q2
        obtain⟨h1,h2⟩:=runD_ok hcall hn r _ ⟨putT s.t o.dst v,backT s.m m' x,addL lim s.wl wl⟩ s' p1 (by show lim≤(backT s.m m' x).next; rw[b1]; omega) hd2 h
        have hless:∀ c,c∉x→(lessT s.m x).mem.get c=s.m.mem.get c:=fun c hcx=>by rw[l1]; simp[Mem.less,hcx]
        refine⟨⟨h1.t,by have:=h1.next; simp only[b1]at this; omega,fun c hc' hw'=>?_⟩,fun K hK=>?_⟩
        ·obtain⟨k1,k2⟩:=h1.keep c hc' hw'
         obtain⟨k3,k4⟩:=addL_spec wl s.wl c hc' k1
         refine⟨k3,?_⟩
         rw[k2]
         show(backT s.m m' x).tr.get c=s.m.tr.get c
         rw[b2 c]
         by_cases hcx:c∈x
         ·rw[if_pos hcx]
         ·rw[if_neg hcx]
          have:=q2 c (by omega) k4
          rw[hless c hcx]at this
          exact this
        ·have hcA:callee (toL n s.t) f xs=some (g,args):=by rw[calleeT_eq ht]; exact hc
         simp only[dops,hwA,hop,hcA]
         refine⟨wl,x,v,(backT s.m m' x).mem,⟨m'.mem,hid,fun c hc'=>noneT_spec hN c hc',q1,b1,fun c=>?_,fun c c1 c2 c3=>?_,by rw[← l1]; exact q3 (base+fs.length)⟩,indepLB_spec hi,?_⟩
         ·exact b2 c
         ·have:=q2 c c2 c1
          rw[hless c c3]at this
          exact this
         ·rw[← p2]
          exact h2 K hK
    ·have hne:∀ f xs,o.op≠.call f xs:=fun f xs he=>hcl ⟨f,xs,he⟩
     have h':(match stepD (base+fs.length) (evT s.t) s.m.tr.get o.op with
      | some (v,d)=>bif indepLB fs (FT.ops (footWD (base+fs.length) (evT s.t) o.op) (footRD (evT s.t) o.op)) o.un&&okD d then runD call lim base r (fs++[FT.ops (footWD (base+fs.length) (evT s.t) o.op) (footRD (evT s.t) o.op)]) ⟨putT s.t o.dst v,s.m.apply d,addW lim s.wl d⟩ else none
      | none=>none)=some s':=by
      cases hop:o.op<;>rw[hop]at h<;>first|(exact absurd hop (hne _ _))|exact h
     cases hs:stepD (base+fs.length) (evT s.t) s.m.tr.get o.op with
     | none=>simp[hs]at h'
     | some vd=>
      obtain⟨v,d⟩:=vd
      simp only[hs]at h'
      cases hchk:(indepLB fs (FT.ops (footWD (base+fs.length) (evT s.t) o.op) (footRD (evT s.t) o.op)) o.un&&okD d)with
      | false=>rw[hchk]at h'; cases h'
      | true=>
       rw[hchk]at h'
       simp only[cond_true]at h'
       simp only[Bool.and_eq_true]at hchk
       obtain⟨hi,ho⟩:=hchk
       obtain⟨p1,p2⟩:=putT_ok (v:=v) hn ht hdst
       obtain⟨h1,h2⟩:=runD_ok hcall hn r _ ⟨putT s.t o.dst v,s.m.apply d,addW lim s.wl d⟩ s' p1 (by show lim≤(s.m.apply d).next; rw[TM.apply_next]; exact hlim) hd2 h'
       refine⟨⟨h1.t,by have:=h1.next; simp only[TM.apply_next]at this; exact this,fun c hc hw'=>?_⟩,fun K hK=>?_⟩
       ·obtain⟨k1,k2⟩:=h1.keep c hc hw'
        obtain⟨k3,k4⟩:=addW_spec d s.wl s.m.mem c hc k1
        exact⟨k3,by rw[k2]; show(s.m.apply d).mem.get c=_; rw[TM.apply_mem _ _ ho]; exact k4⟩
       ·have h3:=stepT_ok (n:=n) ht hs ho
        have h4:indepL fs (.ops (footW (base+fs.length) (toL n s.t) o.op) (footR (toL n s.t) o.op)) o.un∧dops P base r (fs++[.ops (footW (base+fs.length) (toL n s.t) o.op) (footR (toL n s.t) o.op)]) K (put (toL n s.t) o.dst v) (s.m.apply d).mem:=by
         rw[footWD_eq,footRD_eq,ev_toL ht,← p2]
         exact⟨indepLB_spec hi,h2 K hK⟩
        simp only[dops,hwA]
        cases hop:o.op<;>rw[hop]at h3 h4<;>first|(exact absurd hop (hne _ _))|(simp only[h3]; exact h4)
end Go.AE
end
section
namespace Go.AE
open Go.RowKit
variable {P:Program}
def REnd.exit':REnd→Exit
 | .normal=>.normal
 | .exit n=>.exit n
 | .ret=>.ret
theorem ble_true {a b:Nat} (h:Nat.ble a b=true):a≤b:=Nat.le_of_ble_eq_true h
theorem runC_ok {call:Caller} (hcall:CallerOk P call) {n lim:Nat} (hn:n≤bound):∀ (f:Nat) (c:ACode) (s s':RS) (e:REnd),TOk n s.t→lim≤s.m.next→dstOk n c=true→runC call lim f c s=some (e,s') →
 RunOk n lim s s' ∧ ∀ Q:Exit→ASt→Prop,Q e.exit' (s'.st n)→wpc P c Q (s.st n):=by
 intro f
 induction f using Nat.strongRecOn with
 | ind f ih=>
  intro c s s' e ht hlim hd h
  cases f with
  | zero=>simp[runC]at h
  | succ f=>
   have same:RunOk n lim s s:=⟨ht,Nat.le_refl _,fun c _ hw=>⟨hw,rfl⟩⟩
   cases c with
   | skip=>
    simp only[runC,Option.some.injEq,Prod.mk.injEq]at h
    obtain⟨rfl,rfl⟩:=h
    exact⟨same,fun Q hQ=>hQ⟩
   | label l=>
    simp only[runC,Option.some.injEq,Prod.mk.injEq]at h
    obtain⟨rfl,rfl⟩:=h
    exact⟨same,fun Q hQ=>hQ⟩
   | exit i=>
    simp only[runC,Option.some.injEq,Prod.mk.injEq]at h
    obtain⟨rfl,rfl⟩:=h
    exact⟨same,fun Q hQ=>hQ⟩
   | ret=>
    simp only[runC,Option.some.injEq,Prod.mk.injEq]at h
    obtain⟨rfl,rfl⟩:=h
    exact⟨same,fun Q hQ=>hQ⟩
   | bad=>simp[runC]at h
   | region draw ops=>
    cases draw with
    | false=>
     simp only[runC]at h
     cases hb:Nat.ble (s.m.next+ops.length) bound with
     | false=>rw[hb]at h; cases h
     | true=>
      rw[hb]at h
      simp only[cond_true]at h
      cases hr:runP call lim s.m.next ops 0 ⟨s.t,⟨s.m.tr,s.m.next+ops.length⟩,s.wl⟩ with
      | none=>simp[hr]at h
      | some s2=>
       simp only[hr,Option.some.injEq,Prod.mk.injEq]at h
       obtain⟨rfl,rfl⟩:=h
       obtain⟨h1,h2⟩:=runP_ok hcall hn ops 0 ⟨s.t,⟨s.m.tr,s.m.next+ops.length⟩,s.wl⟩ s2 ht (by show lim≤s.m.next+ops.length; omega) hd hr
       refine⟨⟨h1.t,Nat.le_trans (Nat.le_add_right _ _) h1.next,h1.keep⟩,fun Q hQ=>?_⟩
       exact h2 (Q .normal) hQ
    | true=>
     simp only[runC]at h
     cases hb:Nat.ble (s.m.next+ops.length) bound with
     | false=>rw[hb]at h; cases h
     | true=>
      rw[hb]at h
      simp only[cond_true]at h
      cases hr:runD call lim s.m.next ops [] ⟨s.t,⟨s.m.tr,s.m.next+ops.length⟩,s.wl⟩ with
      | none=>simp[hr]at h
      | some s2=>
       simp only[hr,Option.some.injEq,Prod.mk.injEq]at h
       obtain⟨rfl,rfl⟩:=h
       obtain⟨h1,h2⟩:=runD_ok hcall hn ops [] ⟨s.t,⟨s.m.tr,s.m.next+ops.length⟩,s.wl⟩ s2 ht (by show lim≤s.m.next+ops.length; omega) hd hr
       refine⟨⟨h1.t,Nat.le_trans (Nat.le_add_right _ _) h1.next,h1.keep⟩,fun Q hQ=>?_⟩
       exact h2 (Q .normal) hQ
   | seq a b=>
    simp only[dstOk,Bool.and_eq_true]at hd
    simp only[runC]at h
    cases hr:runC call lim f a s with
    | none=>simp[hr]at h
    | some es=>
     obtain⟨e2,s2⟩:=es
     obtain⟨h1,h2⟩:=ih f (Nat.lt_succ_self f) a s s2 e2 ht hlim hd.1 hr
     cases e2 with
     | normal=>
      simp only[hr]at h
      obtain⟨h3,h4⟩:=ih f (Nat.lt_succ_self f) b s2 s' e h1.t (Nat.le_trans hlim h1.next) hd.2 h
      exact⟨h1.trans h3,fun Q hQ=>h2 _ (h4 Q hQ)⟩
     | exit i=>
      simp only[hr,Option.some.injEq,Prod.mk.injEq]at h
      obtain⟨rfl,rfl⟩:=h
      exact⟨h1,fun Q hQ=>h2 _ hQ⟩
     | ret=>
      simp only[hr,Option.some.injEq,Prod.mk.injEq]at h
      obtain⟨rfl,rfl⟩:=h
      exact⟨h1,fun Q hQ=>h2 _ hQ⟩
   | cond x a b=>
    simp only[dstOk,Bool.and_eq_true]at hd
    simp only[runC]at h
    have hx:ev (toL n s.t) x=evT s.t x:=congrFun (ev_toL ht) x
    split at h
    ·rename_i hb
     obtain⟨h1,h2⟩:=ih f (Nat.lt_succ_self f) a s s' e ht hlim hd.1 h
     refine⟨h1,fun Q hQ=>?_⟩
     simp only[wpc,RS.st,hx,hb]
     exact h2 Q hQ
    ·rename_i hb
     obtain⟨h1,h2⟩:=ih f (Nat.lt_succ_self f) b s s' e ht hlim hd.2 h
     refine⟨h1,fun Q hQ=>?_⟩
     simp only[wpc,RS.st,hx,hb]
     exact h2 Q hQ
    ·cases h
   | block i c=>
    simp only[dstOk]at hd
    simp only[runC]at h
    cases hr:runC call lim f c s with
    | none=>simp[hr]at h
    | some es=>
     obtain⟨e2,s2⟩:=es
     obtain⟨h1,h2⟩:=ih f (Nat.lt_succ_self f) c s s2 e2 ht hlim hd hr
     cases e2 with
     | normal=>
      simp only[hr,Option.some.injEq,Prod.mk.injEq]at h
      obtain⟨rfl,rfl⟩:=h
      exact⟨h1,fun Q hQ=>h2 _ hQ⟩
     | ret=>
      simp only[hr,Option.some.injEq,Prod.mk.injEq]at h
      obtain⟨rfl,rfl⟩:=h
      exact⟨h1,fun Q hQ=>h2 _ hQ⟩
     | exit k=>
      simp only[hr]at h
      cases hb:Nat.beq k i with
      | true=>
       rw[hb]at h
       simp only[cond_true,Option.some.injEq,Prod.mk.injEq]at h
       obtain⟨rfl,rfl⟩:=h
       have:=Nat.eq_of_beq_eq_true hb
       subst this
       exact⟨h1,fun Q hQ=>h2 _ (by simp only[REnd.exit',blockA,if_true]; exact hQ)⟩
      | false=>
       rw[hb]at h
       simp only[cond_false,Option.some.injEq,Prod.mk.injEq]at h
       obtain⟨rfl,rfl⟩:=h
       have hne:k≠i:=fun e=>by subst e; rw[Nat.beq_refl]at hb; cases hb
       exact⟨h1,fun Q hQ=>h2 _ (by simp only[REnd.exit',blockA,if_neg hne]; exact hQ)⟩
   | scope c=>
    simp only[dstOk]at hd
    simp only[runC]at h
    obtain⟨h1,h2⟩:=ih f (Nat.lt_succ_self f) c s s' e ht hlim hd h
    refine⟨h1,fun Q hQ=>h2 _ ?_⟩
    cases e<;>exact hQ
   | loop c=>
    have hdl:=hd
    simp only[dstOk]at hd
    have hfin:RunOk n lim s s':=by
     simp only[runC]at h
     cases hr:runC call lim f c s with
     | none=>simp[hr]at h
     | some es=>
      obtain⟨e2,s2⟩:=es
      obtain⟨h1,_⟩:=ih f (Nat.lt_succ_self f) c s s2 e2 ht hlim hd hr
      cases e2 with
      | normal=>
       simp only[hr]at h
       exact h1.trans (ih f (Nat.lt_succ_self f) (.loop c) s2 s' e h1.t (Nat.le_trans hlim h1.next) hdl h).1
      | exit i=>
       simp only[hr,Option.some.injEq,Prod.mk.injEq]at h
       obtain⟨rfl,rfl⟩:=h
       exact h1
      | ret=>
       simp only[hr,Option.some.injEq,Prod.mk.injEq]at h
       obtain⟨rfl,rfl⟩:=h
       exact h1
    refine⟨hfin,fun Q hQ=>?_⟩
    refine⟨fun k σ=>k≤f ∧ ∃ s1,σ=s1.st n∧TOk n s1.t∧lim≤s1.m.next∧runC call lim (k+1) (.loop c) s1=some (e,s'),⟨f,_,.refl _,Nat.le_refl _,s,rfl,ht,hlim,h⟩,?_⟩
    rintro k σ ⟨hkf,s1,rfl,ht1,hl1,hr1⟩
    simp only[runC]at hr1
    cases hr:runC call lim k c s1 with
    | none=>simp[hr]at hr1
    | some es=>
     obtain⟨e2,s2⟩:=es
     obtain⟨h1,h2⟩:=ih k (by omega) c s1 s2 e2 ht1 hl1 hd hr
     refine h2 _ ?_
     cases e2 with
     | normal=>
      simp only[hr]at hr1
      cases k with
      | zero=>simp[runC]at hr1
      | succ k=>exact ⟨k,s2.st n,Nat.lt_succ_self k,.refl _,by omega,s2,rfl,h1.t,Nat.le_trans hl1 h1.next,hr1⟩
     | exit i=>
      simp only[hr,Option.some.injEq,Prod.mk.injEq]at hr1
      obtain⟨rfl,rfl⟩:=hr1
      exact hQ
     | ret=>
      simp only[hr,Option.some.injEq,Prod.mk.injEq]at hr1
      obtain⟨rfl,rfl⟩:=hr1
      exact hQ
end Go.AE
end
