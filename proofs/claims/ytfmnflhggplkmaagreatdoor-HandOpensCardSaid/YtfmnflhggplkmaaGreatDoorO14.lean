/- Part 14 of the proof: AeGa, AeRunP, Pa. -/
import Derived.Test.YtfmnflhggplkmaaGreatDoorO12
import Derived.Test.YtfmnflhggplkmaaGreatDoorO13
import Derived.Deep.LoopGhost
import Derived.RangeFuncRecord
set_option linter.all false
section
namespace Go.AE
open Go.RowKit
abbrev RegW:=Bool→List AOper→(ASt→Prop)→ASt→Prop
structure Open (F:Fence):Prop where
 fn:∀ f,F.fn f
 depth:F.depth=none
 alive:F.alive=false
theorem Open.round {F:Fence} (h:Open F) (l:Nat):Open (F.inRound l):=⟨h.fn,h.depth,h.alive⟩
abbrev HypW:=Base→Pers→Rho→Prop
def HypW.Mono (H:HypW):Prop:=∀ W Φ ρ Φ' ρ',H W Φ ρ→Ext Φ ρ Φ' ρ'→H W Φ' ρ'
section
variable {F:Fence} {n:Nat} {H:HypW} {D:List Deferred} {P:Program} {wr:RegW} {sc:Bool}
end
end Go.AE
end
section
namespace Go.AE
open Go.RowKit
variable {P:Program}
def CallerOk (P:Program) (call:Caller):Prop:=
 ∀ g args m v m' wl,call g args m=some (v,m',wl)→m.next≤m'.next∧(∀ c,c<m.next→c∉wl→m'.mem.get c=m.mem.get c) ∧
  ∀ id,ACalls P g args m.mem [id] fun r m''=>r=v∧m''=m'.mem
theorem wantedT_eq {n:Nat} {t:Tr AVal} (ht:TOk n t) (g:Option (Nat×Bool)):wantedA (toL n t) g=wantedT t g:=by
 cases g with
 | none=>rfl
 | some dw=>
  obtain⟨d,w⟩:=dw
  have:(toL n t).getD d aundef=evT t (.tmp d):=by
   have:=congrFun (ev_toL ht) (.tmp d)
   exact this
  simp only[wantedA,wantedT,this]
  rfl
theorem calleeT_eq {n:Nat} {t:Tr AVal} (ht:TOk n t) (f:AOpd) (xs:List AOpd):callee (toL n t) f xs=calleeT t f xs:=by
 simp only[callee,calleeT,ev_toL ht]
 rfl
theorem stepT_ok {n id:Nat} {t:Tr AVal} {m:TM} {op:AOp} {v:AVal} {d:List (Nat×Option ABlk)} (ht:TOk n t) (h:stepD id (evT t) m.tr.get op=some (v,d)) (hd:okD d=true) :
 stepA id (toL n t) m.mem op=some (v,(m.apply d).mem):=by
 rw[TM.apply_mem d m hd]
 refine stepD_ok ?_
 rw[ev_toL ht]
 exact h
def RS.st (n:Nat) (s:RS):ASt:=⟨toL n s.t,s.m.mem⟩
structure RunOk (n lim:Nat) (s s':RS):Prop where
 t:TOk n s'.t
 next:s.m.next≤s'.m.next
 keep:∀ c,c<lim→c∉s'.wl→c∉s.wl∧s'.m.mem.get c=s.m.mem.get c
theorem RunOk.trans {n lim:Nat} {a b c:RS} (h:RunOk n lim a b) (h':RunOk n lim b c):RunOk n lim a c:=
 ⟨h'.t,Nat.le_trans h.next h'.next,fun x hx hw=>by
  obtain⟨h1,h2⟩:=h'.keep x hx hw
  obtain⟨h3,h4⟩:=h.keep x hx h1
  exact⟨h3,h2.trans h4⟩⟩
theorem dst_of {n:Nat} {o:AOper} (h:(match o.dst with|some d=>decide (d<n)|none=>true)=true):∀ k,o.dst=some k→k<n:=by
 intro k hk
 rw[hk]at h
 simpa using h
theorem runP_ok {call:Caller} (hcall:CallerOk P call) {n lim base:Nat} (hn:n≤bound):∀ (ops:List AOper) (i:Nat) (s s':RS),TOk n s.t→lim≤s.m.next →
 (ops.all fun o=>match o.dst with|some d=>decide (d<n)|none=>true)=true→runP call lim base ops i s=some s' →
 RunOk n lim s s' ∧ ∀ K:ASt→Prop,K (s'.st n)→wops P base ops i K (toL n s.t) s.m.mem
 | [],i,s,s',ht,_,_,h=>by
  simp only[runP,Option.some.injEq]at h
  subst h
  exact⟨⟨ht,Nat.le_refl _,fun c _ hw=>⟨hw,rfl⟩⟩,fun K hK=>hK⟩
 | o :: r,i,s,s',ht,hlim,hd,h=>by
  simp only[List.all_cons,Bool.and_eq_true]at hd
  obtain⟨hd1,hd2⟩:=hd
  have hdst:=dst_of hd1
  simp only[runP]at h
  cases hw:wantedT s.t o.guard with
  | none=>simp[hw]at h
  | some q=>
   have hwA:wantedA (toL n s.t) o.guard=some q:=by rw[wantedT_eq ht]; exact hw
   cases q with
   | false=>
    simp only[hw]at h
    obtain⟨p1,p2⟩:=putT_ok (v:=aundef) hn ht hdst
    obtain⟨h1,h2⟩:=runP_ok hcall hn r (i+1) ⟨putT s.t o.dst aundef,s.m,s.wl⟩ s' p1 hlim hd2 h
    refine⟨⟨h1.t,h1.next,h1.keep⟩,fun K hK=>?_⟩
    simp only[wops,hwA]
    rw[← p2]
    exact h2 K hK
   | true=>
    simp only[hw]at h
    have other:(∀ f xs,o.op≠.call f xs)→(match stepD (base+i) (evT s.t) s.m.tr.get o.op with
     | some (v,[])=>runP call lim base r (i+1) ⟨putT s.t o.dst v,s.m,s.wl⟩
     | some (v,d)=>bif okD d then runP call lim base r (i+1) ⟨putT s.t o.dst v,s.m.apply d,addW lim s.wl d⟩ else none
     | none=>none)=some s'→RunOk n lim s s' ∧ ∀ K:ASt→Prop,K (s'.st n) → ∃ v m',stepA (base+i) (toL n s.t) s.m.mem o.op=some (v,m')∧wops P base r (i+1) K (put (toL n s.t) o.dst v) m':=by
     intro hne hh
     cases hs:stepD (base+i) (evT s.t) s.m.tr.get o.op with
     | none=>simp[hs]at hh
     | some vd=>
      obtain⟨v,d⟩:=vd
      obtain⟨p1,p2⟩:=putT_ok (v:=v) hn ht hdst
      cases d with
      | nil=>
       simp only[hs]at hh
       obtain⟨h1,h2⟩:=runP_ok hcall hn r (i+1) ⟨putT s.t o.dst v,s.m,s.wl⟩ s' p1 hlim hd2 hh
       exact⟨⟨h1.t,h1.next,h1.keep⟩,fun K hK=>⟨v,s.m.mem,stepT_ok ht hs rfl,by rw[← p2]; exact h2 K hK⟩⟩
      | cons e d=>
       simp only[hs]at hh
       cases ho:okD (e :: d)with
       | false=>rw[ho]at hh; cases hh
       | true=>
        rw[ho]at hh
        simp only[cond_true]at hh
        obtain⟨h1,h2⟩:=runP_ok hcall hn r (i+1) _ s' p1 (by rw[TM.apply_next]; exact hlim) hd2 hh
        refine⟨⟨h1.t,by have:=h1.next; rw[TM.apply_next]at this; exact this,fun c hc hw'=>?_⟩,fun K hK=>⟨v,_,stepT_ok ht hs ho,by rw[← p2]; exact h2 K hK⟩⟩
        obtain⟨k1,k2⟩:=h1.keep c hc hw'
        obtain⟨k3,k4⟩:=addW_spec (e :: d) s.wl s.m.mem c hc k1
        exact⟨k3,by rw[k2,TM.apply_mem _ _ ho]; exact k4⟩
    by_cases hcl:∃ f xs,o.op=.call f xs
    ·obtain⟨f,xs,hop⟩:=hcl
     simp only[hop]at h
     cases hc:calleeT s.t f xs with
     | none=>simp[hc]at h
     | some ga=>
      obtain⟨g,args⟩:=ga
      simp only[hc]at h
      cases hcc:call g args s.m with
      | none=>simp[hcc]at h
      | some vmw=>
       obtain⟨v,m',wl⟩:=vmw
       simp only[hcc]at h
       obtain⟨q1,q2,q3⟩:=hcall g args s.m v m' wl hcc
       obtain⟨p1,p2⟩:=putT_ok (v:=v) hn ht hdst
       obtain⟨h1,h2⟩:=runP_ok hcall hn r (i+1) _ s' p1 (Nat.le_trans hlim q1) hd2 h
       refine⟨⟨h1.t,Nat.le_trans q1 h1.next,fun c hc' hw'=>?_⟩,fun K hK=>?_⟩
       ·obtain⟨k1,k2⟩:=h1.keep c hc' hw'
        obtain⟨k3,k4⟩:=addL_spec wl s.wl c hc' k1
        exact⟨k3,by rw[k2]; exact q2 c (by omega) k4⟩
       ·have hcA:callee (toL n s.t) f xs=some (g,args):=by rw[calleeT_eq ht]; exact hc
        simp only[wops,hwA,hop,hcA]
        refine(q3 (base+i)).mono fun y m'' hy=>?_
        obtain⟨rfl,rfl⟩:=hy
        rw[← p2]
        exact h2 K hK
    ·have hne:∀ f xs,o.op≠.call f xs:=fun f xs he=>hcl ⟨f,xs,he⟩
     have h':(match stepD (base+i) (evT s.t) s.m.tr.get o.op with
      | some (v,[])=>runP call lim base r (i+1) ⟨putT s.t o.dst v,s.m,s.wl⟩
      | some (v,d)=>bif okD d then runP call lim base r (i+1) ⟨putT s.t o.dst v,s.m.apply d,addW lim s.wl d⟩ else none
      | none=>none)=some s':=by
      cases hop:o.op<;>rw[hop]at h<;>first|(exact absurd hop (hne _ _))|exact h
     obtain⟨h1,h2⟩:=other hne h'
     refine⟨h1,fun K hK=>?_⟩
     obtain⟨v,m',h3,h4⟩:=h2 K hK
     simp only[wops,hwA]
     cases hop:o.op<;>rw[hop]at h3<;>first|(exact absurd hop (hne _ _))|(simp only[h3]; exact h4)
end Go.AE
end
section
namespace Go.Plain
structure Lt where
 k:Int
 g:Int
 r:Int
 i:Int
 s:Int
 o:Bool
 deriving DecidableEq,Inhabited
def cntP (p:Lt→Bool) (ls:List Lt):Nat:=(ls.filter p).length
def isP (l:Lt):Bool:=l.k == 1
def isX (l:Lt):Bool:=l.k == 2
def passes (ls:List Lt):Nat:=cntP isP ls
def down (ls:List Lt) (i:Nat):Bool:=passes (ls.take i) % 2 == 0
def same (l:Lt) (ls:List Lt):Nat:=cntP (fun o=>o.k == l.k&&o.g == l.g&&o.r == l.r) ls
def mark (next:Nat→Nat):Nat→List Bool→Nat→List Bool
 | 0,seen,_=>seen
 | k+1,seen,x=>if seen.getD x true then seen else mark next k (seen.set x true) (next x)
theorem mark_length (next:Nat→Nat):∀ (k:Nat) (seen:List Bool) (x:Nat),(mark next k seen x).length=seen.length
 | 0,_,_=>rfl
 | k+1,seen,x=>by
  simp only[mark]
  split
  ·rfl
  ·rw[mark_length next k]; simp
def unseen (seen:List Bool):Nat:=(seen.filter fun b=>!b).length
end Go.Plain
end
