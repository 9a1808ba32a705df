/- Part 12 of the proof: AeRunF. -/
import Derived.Test.YtggclbeocekgkaaGreatDoorP11
set_option linter.all false
namespace Go.AE
open Go.RowKit
variable {P:Program}
def SI(P:Program)(Ds:Nat→Option As):Prop:=
 ∀ g af,Ds g=some af→(∃ fn,P.funcs[g]? = some fn∧AS P fn=some af)∧U9 af.ntmps af.body=true∧af.ntmps≤bound
theorem qD:∀ (args:List Aa) (t:Tr Aa) (i k:Nat),i+args.length≤bound→(D0 t i args).get k=if i≤k∧k<i+args.length then args[k - i]? else t.get k
 | [],t,i,k,_=>by simp[D0]; intro h1 h2; omega
 | x :: r,t,i,k,h=>by
  simp only[lC]at h ⊢;simp only[D0];rw[qD r _ (i+1) k (by omega),Tr.AH depth t i (some x) k (RR (by omega))]
  by_cases h1:i+1≤k∧k<i+1+r.length
  ·rw[iP h1,iP (by omega)]
   have:k - i=(k - (i+1))+1:=by omega
   rw[this,List.getElem?_cons_succ]
  ·rw[iN h1];by_cases h2:k=i
   ·subst h2;rw[iP rfl,iP (by omega)]
    simp
   ·rw[iN h2,iN (by omega)]
theorem Xb{n:Nat}{args:List Aa}(hn:n≤bound)(hl:args.length≤n):Dj n (D0 .nil 0 args)∧Cs n (D0 .nil 0 args)=args++List.replicate (n - args.length) Ag:=by
 have hg:=fun k=>qD args .nil 0 k (by omega)
 refine⟨fun i hi=>?_,?_⟩
 ·rw[hg i,iN (by omega)]; rfl
 ·apply List.ext_getElem?;intro i;rcases lG i n with h|h
  ·rw[Wu h];simp only[Ch];rw[hg i];rw[List.getElem?_append];by_cases h2:i<args.length
   ·rw[iP (by omega),iP h2]
    simp[h2]
   ·rw[iN (by omega),iN h2]
    simp only[Tr.get_nil];rw[List.getElem?_replicate,iP (by omega)]
  ·rw[List.getElem?_eq_none (by rw[Su]; exact h),List.getElem?_eq_none (by simp; omega)]
theorem wF{n:Nat}{t:Tr Aa}{m:TM}(ht:Dj n t)(x:Nat×Option (Option Nat)):D5 (Cs n t) m.mem x=Tg t m x:=by
 obtain⟨i,o⟩:=x;have h:(Cs n t).getD i Ag=Ch t (.tmp i):=congrFun (Jk ht) (.tmp i);cases o with
 | none=>simp only[D5,Tg,h]
 | some k=>simp only[D5,Tg,h,Zh]; rfl
theorem yQ{n:Nat}{t:Tr Aa}{m:TM}(ht:Dj n t):∀ (xs:List (Nat×Option (Option Nat))),F5 (Cs n t) m.mem xs=Wy t m xs
 | []=>rfl
 | x :: r=>by
  simp only[F5,Wy,wF ht,yQ ht r]
  try rfl
theorem Yb{n:Nat}{t:Tr Aa}{m:TM}(ht:Dj n t)(xs:List (Nat×Option (Option Nat))):N5 (Cs n t) m.mem xs=C4 t m xs:=by
 cases xs with
 | nil=>rfl
 | cons x r=>
  cases r with
  | nil=>exact wF ht x
  | cons y r=>simp only[N5,C4,yQ ht]; try rfl
theorem Zw(hm:P.follows .mixedOrders=true){Ds:Nat→Option As}{Gk:AP}(FR:SI P Ds)(Mh:D8 P Gk):∀ f,D8 P (Ff Ds Gk f)
 | 0,g,args,m,v,m',wl,h=>by simp[Ff]at h
 | f+1,g,args,m,v,m',wl,h=>by
  have ih:=Zw hm FR Mh f;simp only[Ff]at h;cases ho:Gk g args m with
  | some r=>
   simp only[ho,oI]at h;subst h;exact Mh g args m v m' wl ho
  | none=>
   simp only[ho]at h;cases ht:Ds g with
   | none=>simp[ht]at h
   | some af=>
    simp only[ht]at h;obtain⟨⟨fn,EK,Fv⟩,hd,hb⟩:=FR g af ht;cases hl:Nat.ble args.length af.ntmps with
    | false=>rw[hl]at h; cases h
    | true=>
     rw[hl]at h;simp only[cond_true]at h;obtain⟨a1,a2⟩:=Xb hb (Nd hl);have fin:∀ (e:BO) (s:RS),(∀ i,e≠.exit i)→R7 (Ff Ds Gk f) m.next 1000 af.body ⟨D0 .nil 0 args,m,[]⟩=some (e,s)→(match C4 s.t s.m af.results with|some v=>some (v,s.m,s.wl)|none=>none)=some (v,m',wl) →
      m.next≤m'.next∧(∀ c,c<m.next→c∉wl→m'.mem.get c=m.mem.get c) ∧ ∀ id,Au P g args m.mem [id] fun r m''=>r=v∧m''=m'.mem:=by
      intro e s hne hrun hret;obtain⟨h1,h2⟩:=zf ih hb 1000 af.body ⟨D0 .nil 0 args,m,[]⟩ s e a1 (lR _) hd hrun;cases hr:C4 s.t s.m af.results with
      | none=>simp[hr]at hret
      | some r=>
       simp only[hr,oI,Bm]at hret;obtain⟨rfl,rfl,rfl⟩:=hret;refine⟨h1.next,fun c hc hw=>(h1.keep c hc hw).2,fun id=>Z62 hm EK Fv ?_⟩
       rw[← a2];refine h2 _ ?_;have hrA:N5 (Cs af.ntmps s.t) s.m.mem af.results=some r:=by rw[Yb h1.t]; exact hr
       cases e with
       | normal=>simp only[BO.exit',FZ,RS.st,hrA]; exact⟨trivial,trivial⟩
       | ret=>simp only[BO.exit',FZ,RS.st,hrA]; exact⟨trivial,trivial⟩
       | exit i=>exact absurd rfl (hne i)
     cases hrun:R7 (Ff Ds Gk f) m.next 1000 af.body ⟨D0 .nil 0 args,m,[]⟩ with
     | none=>simp[hrun]at h
     | some es=>
      obtain⟨e,s⟩:=es;cases e with
      | exit i=>simp[hrun]at h
      | normal=>simp only[hrun]at h; exact fin .normal s (by simp) hrun h
      | ret=>simp only[hrun]at h; exact fin .ret s (by simp) hrun h
end Go.AE
