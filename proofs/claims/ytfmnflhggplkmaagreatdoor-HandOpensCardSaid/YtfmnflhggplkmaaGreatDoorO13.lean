/- Part 13 of the proof: AeRunS. -/
import Derived.Test.YtfmnflhggplkmaaGreatDoorO12
set_option linter.all false
namespace Go.AE
open Go.RowKit
theorem Tr.get_nil {α:Type} (n:Nat):(Tr.nil:Tr α).get n=none:=rfl
theorem Tr.get_node {α:Type} (l:Tr α) (v:Option α) (r:Tr α) (n:Nat):(Tr.node l v r).get n=if n=0 then v else if n % 2=1 then l.get (n / 2)else r.get (n / 2 - 1):=by
 show(bif Nat.beq n 0 then v else bif Nat.beq (n % 2) 1 then l.get (n / 2)else r.get (n / 2 - 1))=_
 by_cases h0:n=0
 ·subst h0; rfl
 ·have e0:Nat.beq n 0=false:=by
   cases hq:Nat.beq n 0 with
   | false=>rfl
   | true=>exact absurd (Nat.eq_of_beq_eq_true hq) h0
  rw[if_neg h0,e0]
  simp only[cond_false]
  by_cases h1:n % 2=1
  ·rw[if_pos h1,h1]; rfl
  ·rw[if_neg h1]
   have:Nat.beq (n % 2) 1=false:=by
    cases hq:Nat.beq (n % 2) 1 with
    | false=>rfl
    | true=>exact absurd (Nat.eq_of_beq_eq_true hq) h1
   rw[this]; rfl
theorem Tr.set_nil {α:Type} (d n:Nat) (x:Option α):Tr.set (d+1) .nil n x=if n=0 then .node .nil x .nil else if n % 2=1 then .node (Tr.set d .nil (n / 2) x) none .nil else .node .nil none (Tr.set d .nil (n / 2 - 1) x):=by
 show(bif Nat.beq n 0 then _ else bif Nat.beq (n % 2) 1 then _ else _)=_
 by_cases h0:n=0
 ·subst h0; rfl
 ·have e0:Nat.beq n 0=false:=by
   cases hq:Nat.beq n 0 with
   | false=>rfl
   | true=>exact absurd (Nat.eq_of_beq_eq_true hq) h0
  rw[if_neg h0,e0]
  simp only[cond_false]
  by_cases h1:n % 2=1
  ·rw[if_pos h1,h1]; rfl
  ·have e1:Nat.beq (n % 2) 1=false:=by
    cases hq:Nat.beq (n % 2) 1 with
    | false=>rfl
    | true=>exact absurd (Nat.eq_of_beq_eq_true hq) h1
   rw[if_neg h1,e1]; rfl
theorem Tr.set_node {α:Type} (d n:Nat) (l:Tr α) (v:Option α) (r:Tr α) (x:Option α):Tr.set (d+1) (.node l v r) n x=if n=0 then .node l x r else if n % 2=1 then .node (Tr.set d l (n / 2) x) v r else .node l v (Tr.set d r (n / 2 - 1) x):=by
 show(bif Nat.beq n 0 then _ else bif Nat.beq (n % 2) 1 then _ else _)=_
 by_cases h0:n=0
 ·subst h0; rfl
 ·have e0:Nat.beq n 0=false:=by
   cases hq:Nat.beq n 0 with
   | false=>rfl
   | true=>exact absurd (Nat.eq_of_beq_eq_true hq) h0
  rw[if_neg h0,e0]
  simp only[cond_false]
  by_cases h1:n % 2=1
  ·rw[if_pos h1,h1]; rfl
  ·have e1:Nat.beq (n % 2) 1=false:=by
    cases hq:Nat.beq (n % 2) 1 with
    | false=>rfl
    | true=>exact absurd (Nat.eq_of_beq_eq_true hq) h1
   rw[if_neg h1,e1]; rfl
theorem Tr.get_set {α:Type}:∀ (d:Nat) (t:Tr α) (n:Nat) (x:Option α) (k:Nat),n+1<2 ^ d→(Tr.set d t n x).get k=if k=n then x else t.get k
 | 0,_,n,_,_,h=>by simp at h
 | d+1,t,n,x,k,h=>by
  rw[Nat.pow_succ]at h
  cases t with
  | nil=>
   rw[Tr.set_nil,Tr.get_nil]
   by_cases h0:n=0
   ·subst h0
    rw[if_pos rfl,Tr.get_node,Tr.get_nil,Tr.get_nil]
    split<;>simp
   ·rw[if_neg h0]
    by_cases h1:n % 2=1
    ·rw[if_pos h1,Tr.get_node,Tr.get_nil]
     by_cases hk0:k=0
     ·subst hk0; rw[if_pos rfl,if_neg (by omega)]
     ·rw[if_neg hk0]
      by_cases hk1:k % 2=1
      ·rw[if_pos hk1,Tr.get_set d .nil (n / 2) x (k / 2) (by omega),Tr.get_nil]
       by_cases hkn:k=n
       ·subst hkn; simp
       ·rw[if_neg hkn,if_neg (by omega)]
      ·rw[if_neg hk1,if_neg (by omega)]
    ·rw[if_neg h1,Tr.get_node,Tr.get_nil]
     by_cases hk0:k=0
     ·subst hk0; rw[if_pos rfl,if_neg (by omega)]
     ·rw[if_neg hk0]
      by_cases hk1:k % 2=1
      ·rw[if_pos hk1,if_neg (by omega)]
      ·rw[if_neg hk1,Tr.get_set d .nil (n / 2 - 1) x (k / 2 - 1) (by omega),Tr.get_nil]
       by_cases hkn:k=n
       ·subst hkn; simp
       ·rw[if_neg hkn,if_neg (by omega)]
  | node l v r=>
   rw[Tr.set_node,Tr.get_node]
   by_cases h0:n=0
   ·subst h0
    rw[if_pos rfl,Tr.get_node]
    by_cases hk0:k=0<;>simp[hk0]
   ·rw[if_neg h0]
    by_cases h1:n % 2=1
    ·rw[if_pos h1,Tr.get_node]
     by_cases hk0:k=0
     ·subst hk0; rw[if_pos rfl,if_pos rfl,if_neg (by omega)]
     ·rw[if_neg hk0,if_neg hk0]
      by_cases hk1:k % 2=1
      ·rw[if_pos hk1,if_pos hk1,Tr.get_set d l (n / 2) x (k / 2) (by omega)]
       by_cases hkn:k=n
       ·subst hkn; simp
       ·rw[if_neg hkn,if_neg (by omega)]
      ·rw[if_neg hk1,if_neg hk1,if_neg (by omega)]
    ·rw[if_neg h1,Tr.get_node]
     by_cases hk0:k=0
     ·subst hk0; rw[if_pos rfl,if_pos rfl,if_neg (by omega)]
     ·rw[if_neg hk0,if_neg hk0]
      by_cases hk1:k % 2=1
      ·rw[if_pos hk1,if_pos hk1,if_neg (by omega)]
      ·rw[if_neg hk1,if_neg hk1,Tr.get_set d r (n / 2 - 1) x (k / 2 - 1) (by omega)]
       by_cases hkn:k=n
       ·subst hkn; simp
       ·rw[if_neg hkn,if_neg (by omega)]
theorem bound_lt {b:Nat} (h:b<bound):b+1<2 ^ depth:=by
 simp only[bound,depth]at *
 omega
theorem TM.set_mem_some {m:TM} {b:Nat} {x:ABlk} (h:b<bound):(m.set b (some x)).mem=m.mem.set b x:=
 Mem.ext' (fun c=>by simp only[TM.mem,TM.set,Mem.get_set,Tr.get_set depth _ b _ c (bound_lt h)]) rfl
theorem TM.set_mem_none {m:TM} {b:Nat} (h:b<bound):(m.set b none).mem=m.mem.del b:=
 Mem.ext' (fun c=>by simp only[TM.mem,TM.set,Mem.get_del,Tr.get_set depth _ b _ c (bound_lt h)]) rfl
theorem ble_false {a b:Nat} (h:Nat.ble a b=false):b<a:=by
 rcases Nat.lt_or_ge b a with h'|h'
 ·exact h'
 ·rw[Nat.ble_eq_true_of_le h']at h; cases h
theorem okD_cons {b:Nat} {x:Option ABlk} {r:List (Nat×Option ABlk)} (h:okD ((b,x) :: r)=true):b<bound∧okD r=true:=by
 simp only[okD]at h
 cases hb:Nat.ble bound b with
 | true=>rw[hb]at h; cases h
 | false=>rw[hb]at h; exact⟨ble_false hb,h⟩
theorem TM.apply_mem:∀ (d:List (Nat×Option ABlk)) (m:TM),okD d=true→(m.apply d).mem=m.mem.apply d
 | [],m,_=>rfl
 | (b,none) :: r,m,h=>by
  obtain⟨h1,h2⟩:=okD_cons h
  simp only[TM.apply,Mem.apply]
  rw[TM.apply_mem r _ h2,TM.set_mem_none h1]
 | (b,some x) :: r,m,h=>by
  obtain⟨h1,h2⟩:=okD_cons h
  simp only[TM.apply,Mem.apply]
  rw[TM.apply_mem r _ h2,TM.set_mem_some h1]
theorem TM.apply_next:∀ (d:List (Nat×Option ABlk)) (m:TM),(m.apply d).next=m.next
 | [],_=>rfl
 | (b,x) :: r,m=>by simp only[TM.apply]; rw[TM.apply_next r]; rfl
theorem addW_spec {lim:Nat}:∀ (d:List (Nat×Option ABlk)) (wl:List Nat) (m:Mem) (c:Nat),c<lim→c∉addW lim wl d→c∉wl∧(m.apply d).get c=m.get c
 | [],wl,m,c,_,h=>⟨h,rfl⟩
 | (b,x) :: r,wl,m,c,hc,h=>by
  simp only[addW]at h
  have key:∀ m':Mem,(c≠b→m'.get c=m.get c)→c≠b→(m'.apply r).get c=m'.get c→(m'.apply r).get c=m.get c:=fun m' h1 h2 h3=>by rw[h3,h1 h2]
  cases hb:Nat.ble lim b with
  | true=>
   rw[hb]at h
   have hne:c≠b:=by
    have:=Nat.le_of_ble_eq_true hb
    omega
   cases x with
   | none=>
    obtain⟨h1,h2⟩:=addW_spec r wl (m.del b) c hc h
    exact⟨h1,by simp only[Mem.apply]; rw[h2]; simp[hne]⟩
   | some y=>
    obtain⟨h1,h2⟩:=addW_spec r wl (m.set b y) c hc h
    exact⟨h1,by simp only[Mem.apply]; rw[h2]; simp[hne]⟩
  | false=>
   rw[hb]at h
   cases x with
   | none=>
    obtain⟨h1,h2⟩:=addW_spec r (b :: wl) (m.del b) c hc h
    simp only[List.mem_cons,not_or]at h1
    exact⟨h1.2,by simp only[Mem.apply]; rw[h2]; simp[h1.1]⟩
   | some y=>
    obtain⟨h1,h2⟩:=addW_spec r (b :: wl) (m.set b y) c hc h
    simp only[List.mem_cons,not_or]at h1
    exact⟨h1.2,by simp only[Mem.apply]; rw[h2]; simp[h1.1]⟩
theorem addL_spec {lim:Nat}:∀ (d wl:List Nat) (c:Nat),c<lim→c∉addL lim wl d→c∉wl∧c∉d
 | [],wl,c,_,h=>⟨h,by simp⟩
 | b :: r,wl,c,hc,h=>by
  simp only[addL]at h
  cases hb:Nat.ble lim b with
  | true=>
   rw[hb]at h
   have:=Nat.le_of_ble_eq_true hb
   obtain⟨h1,h2⟩:=addL_spec r wl c hc h
   exact⟨h1,by simp only[List.mem_cons,not_or]; exact⟨by omega,h2⟩⟩
  | false=>
   rw[hb]at h
   obtain⟨h1,h2⟩:=addL_spec r (b :: wl) c hc h
   simp only[List.mem_cons,not_or]at h1
   exact⟨h1.2,by simp only[List.mem_cons,not_or]; exact⟨h1.1,h2⟩⟩
def toL (n:Nat) (t:Tr AVal):List AVal:=(List.range n).map fun i=>evT t (.tmp i)
def TOk (n:Nat) (t:Tr AVal):Prop:=∀ i,n≤i→t.get i=none
theorem toL_length (n:Nat) (t:Tr AVal):(toL n t).length=n:=by simp[toL]
theorem toL_get {n:Nat} {t:Tr AVal} {i:Nat} (h:i<n):(toL n t)[i]? = some (evT t (.tmp i)):=by
 simp[toL,h]
theorem ev_toL {n:Nat} {t:Tr AVal} (ht:TOk n t):ev (toL n t)=evT t:=by
 funext x
 cases x with
 | tmp i=>
  rcases Nat.lt_or_ge i n with h|h
  ·simp only[ev,List.getD,toL_get h,Option.getD_some]
  ·have e1:(toL n t)[i]? = none:=List.getElem?_eq_none (by rw[toL_length]; exact h)
   simp only[ev,List.getD,e1,evT,ht i h,Option.getD_none]
 | const v=>rfl
 | fn f=>rfl
theorem putT_ok {n:Nat} {t:Tr AVal} {d:Option Nat} {v:AVal} (hn:n≤bound) (ht:TOk n t) (hd:∀ k,d=some k→k<n):TOk n (putT t d v)∧toL n (putT t d v)=put (toL n t) d v:=by
 cases d with
 | none=>exact ⟨ht,rfl⟩
 | some k=>
  have hk:=hd k rfl
  have hs:=Tr.get_set depth t k (some v)
  have hb:k+1<2 ^ depth:=bound_lt (by omega)
  refine⟨fun i hi=>?_,?_⟩
  ·simp only[putT]
   rw[hs i hb,if_neg (by omega)]
   exact ht i hi
  ·apply List.ext_getElem?
   intro i
   simp only[put]
   rw[List.getElem?_set]
   rcases Nat.lt_or_ge i n with h|h
   ·rw[toL_get h,toL_get h]
    by_cases hki:k=i
    ·subst hki
     rw[if_pos rfl,if_pos (by rw[toL_length]; exact hk)]
     simp only[putT,evT]
     rw[hs k hb,if_pos rfl]
    ·rw[if_neg hki]
     simp only[putT,evT]
     rw[hs i hb,if_neg (fun e=>hki e.symm)]
   ·rw[List.getElem?_eq_none (by rw[toL_length]; exact h),List.getElem?_eq_none (by rw[toL_length]; exact h)]
    rw[if_neg (by omega)]
end Go.AE
