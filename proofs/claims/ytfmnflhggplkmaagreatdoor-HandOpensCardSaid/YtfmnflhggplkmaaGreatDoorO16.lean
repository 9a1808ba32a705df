/- Part 16 of the proof: AeRunF. -/
import Derived.Test.YtfmnflhggplkmaaGreatDoorO15
set_option linter.all false
namespace Go.AE
open Go.RowKit
variable {P:Program}
def TabOk (P:Program) (tab:Nat→Option AFn):Prop:=
 ∀ g af,tab g=some af→(∃ fn,P.funcs[g]? = some fn∧cFn P fn=some af)∧dstOk af.ntmps af.body=true∧af.ntmps≤bound
theorem argsT_get:∀ (args:List AVal) (t:Tr AVal) (i k:Nat),i+args.length≤bound→(argsT t i args).get k=if i≤k∧k<i+args.length then args[k - i]? else t.get k
 | [],t,i,k,_=>by simp[argsT]; intro h1 h2; omega
 | x :: r,t,i,k,h=>by
  simp only[List.length_cons]at h ⊢
  simp only[argsT]
  rw[argsT_get r _ (i+1) k (by omega),Tr.get_set depth t i (some x) k (bound_lt (by omega))]
  by_cases h1:i+1≤k∧k<i+1+r.length
  ·rw[if_pos h1,if_pos (by omega)]
   have:k - i=(k - (i+1))+1:=by omega
   rw[this,List.getElem?_cons_succ]
  ·rw[if_neg h1]
   by_cases h2:k=i
   ·subst h2
    rw[if_pos rfl,if_pos (by omega)]
    simp
   ·rw[if_neg h2,if_neg (by omega)]
theorem argsT_ok {n:Nat} {args:List AVal} (hn:n≤bound) (hl:args.length≤n):TOk n (argsT .nil 0 args)∧toL n (argsT .nil 0 args)=args++List.replicate (n - args.length) aundef:=by
 have hg:=fun k=>argsT_get args .nil 0 k (by omega)
 refine⟨fun i hi=>?_,?_⟩
 ·rw[hg i,if_neg (by omega)]; rfl
 ·apply List.ext_getElem?
  intro i
  rcases Nat.lt_or_ge i n with h|h
  ·rw[toL_get h]
   simp only[evT]
   rw[hg i]
   rw[List.getElem?_append]
   by_cases h2:i<args.length
   ·rw[if_pos (by omega),if_pos h2]
    simp[h2]
   ·rw[if_neg (by omega),if_neg h2]
    simp only[Tr.get_nil]
    rw[List.getElem?_replicate,if_pos (by omega)]
  ·rw[List.getElem?_eq_none (by rw[toL_length]; exact h),List.getElem?_eq_none (by simp; omega)]
theorem resOneT_eq {n:Nat} {t:Tr AVal} {m:TM} (ht:TOk n t) (x:Nat×Option (Option Nat)):resOne (toL n t) m.mem x=resOneT t m x:=by
 obtain⟨i,o⟩:=x
 have h:(toL n t).getD i aundef=evT t (.tmp i):=congrFun (ev_toL ht) (.tmp i)
 cases o with
 | none=>simp only[resOne,resOneT,h]
 | some k=>simp only[resOne,resOneT,h,loadD_eq]; rfl
theorem resAllT_eq {n:Nat} {t:Tr AVal} {m:TM} (ht:TOk n t):∀ (xs:List (Nat×Option (Option Nat))),resAll (toL n t) m.mem xs=resAllT t m xs
 | []=>rfl
 | x :: r=>by
  simp only[resAll,resAllT,resOneT_eq ht,resAllT_eq ht r]
  try rfl
theorem retT_eq {n:Nat} {t:Tr AVal} {m:TM} (ht:TOk n t) (xs:List (Nat×Option (Option Nat))):retA (toL n t) m.mem xs=retT t m xs:=by
 cases xs with
 | nil=>rfl
 | cons x r=>
  cases r with
  | nil=>exact resOneT_eq ht x
  | cons y r=>simp only[retA,retT,resAllT_eq ht]; try rfl
theorem runF_ok (hm:P.follows .mixedOrders=true) {tab:Nat→Option AFn} {orc:Caller} (htab:TabOk P tab) (horc:CallerOk P orc):∀ f,CallerOk P (runF tab orc f)
 | 0,g,args,m,v,m',wl,h=>by simp[runF]at h
 | f+1,g,args,m,v,m',wl,h=>by
  have ih:=runF_ok hm htab horc f
  simp only[runF]at h
  cases ho:orc g args m with
  | some r=>
   simp only[ho,Option.some.injEq]at h
   subst h
   exact horc g args m v m' wl ho
  | none=>
   simp only[ho]at h
   cases ht:tab g with
   | none=>simp[ht]at h
   | some af=>
    simp only[ht]at h
    obtain⟨⟨fn,hf1,hf2⟩,hd,hb⟩:=htab g af ht
    cases hl:Nat.ble args.length af.ntmps with
    | false=>rw[hl]at h; cases h
    | true=>
     rw[hl]at h
     simp only[cond_true]at h
     obtain⟨a1,a2⟩:=argsT_ok hb (ble_true hl)
     have fin:∀ (e:REnd) (s:RS),(∀ i,e≠.exit i)→runC (runF tab orc f) m.next 1000 af.body ⟨argsT .nil 0 args,m,[]⟩=some (e,s)→(match retT s.t s.m af.results with|some v=>some (v,s.m,s.wl)|none=>none)=some (v,m',wl) →
      m.next≤m'.next∧(∀ c,c<m.next→c∉wl→m'.mem.get c=m.mem.get c) ∧ ∀ id,ACalls P g args m.mem [id] fun r m''=>r=v∧m''=m'.mem:=by
      intro e s hne hrun hret
      obtain⟨h1,h2⟩:=runC_ok ih hb 1000 af.body ⟨argsT .nil 0 args,m,[]⟩ s e a1 (Nat.le_refl _) hd hrun
      cases hr:retT s.t s.m af.results with
      | none=>simp[hr]at hret
      | some r=>
       simp only[hr,Option.some.injEq,Prod.mk.injEq]at hret
       obtain⟨rfl,rfl,rfl⟩:=hret
       refine⟨h1.next,fun c hc hw=>(h1.keep c hc hw).2,fun id=>acalls_of hm hf1 hf2 ?_⟩
       rw[← a2]
       refine h2 _ ?_
       have hrA:retA (toL af.ntmps s.t) s.m.mem af.results=some r:=by rw[retT_eq h1.t]; exact hr
       cases e with
       | normal=>simp only[REnd.exit',retK,RS.st,hrA]; exact⟨trivial,trivial⟩
       | ret=>simp only[REnd.exit',retK,RS.st,hrA]; exact⟨trivial,trivial⟩
       | exit i=>exact absurd rfl (hne i)
     cases hrun:runC (runF tab orc f) m.next 1000 af.body ⟨argsT .nil 0 args,m,[]⟩ with
     | none=>simp[hrun]at h
     | some es=>
      obtain⟨e,s⟩:=es
      cases e with
      | exit i=>simp[hrun]at h
      | normal=>simp only[hrun]at h; exact fin .normal s (by simp) hrun h
      | ret=>simp only[hrun]at h; exact fin .ret s (by simp) hrun h
end Go.AE
