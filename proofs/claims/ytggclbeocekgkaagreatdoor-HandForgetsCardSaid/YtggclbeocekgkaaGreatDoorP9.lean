/- Part 9 of the proof: AeRunS. -/
import Derived.Test.YtggclbeocekgkaaGreatDoorP8
set_option linter.all false
namespace Go.AE
open Go.RowKit
theorem Tr.get_nil{α:Type}(n:Nat):(Tr.nil:Tr α).get n=none:=rfl
theorem Tr.BY{α:Type}(l:Tr α)(v:Option α)(r:Tr α)(n:Nat):(Tr.node l v r).get n=if n=0 then v else if n % 2=1 then l.get (n / 2)else r.get (n / 2 - 1):=by
 show(bif Nat.beq n 0 then v else bif Nat.beq (n % 2) 1 then l.get (n / 2)else r.get (n / 2 - 1))=_
 by_cases h0:n=0
 ·subst h0; rfl
 ·have e0:Nat.beq n 0=false:=by
   cases hq:Nat.beq n 0 with
   | false=>rfl
   | true=>exact absurd (Nat.eq_of_beq_eq_true hq) h0
  rw[iN h0,e0];simp only[cond_false];by_cases h1:n % 2=1
  ·rw[iP h1,h1]; rfl
  ·rw[iN h1];have:Nat.beq (n % 2) 1=false:=by
    cases hq:Nat.beq (n % 2) 1 with
    | false=>rfl
    | true=>exact absurd (Nat.eq_of_beq_eq_true hq) h1
   rw[this]; rfl
theorem Tr.set_nil{α:Type}(d n:Nat)(x:Option α):Tr.set (d+1) .nil n x=if n=0 then .node .nil x .nil else if n % 2=1 then .node (Tr.set d .nil (n / 2) x) none .nil else .node .nil none (Tr.set d .nil (n / 2 - 1) x):=by
 show(bif Nat.beq n 0 then _ else bif Nat.beq (n % 2) 1 then _ else _)=_
 by_cases h0:n=0
 ·subst h0; rfl
 ·have e0:Nat.beq n 0=false:=by
   cases hq:Nat.beq n 0 with
   | false=>rfl
   | true=>exact absurd (Nat.eq_of_beq_eq_true hq) h0
  rw[iN h0,e0];simp only[cond_false];by_cases h1:n % 2=1
  ·rw[iP h1,h1]; rfl
  ·have e1:Nat.beq (n % 2) 1=false:=by
    cases hq:Nat.beq (n % 2) 1 with
    | false=>rfl
    | true=>exact absurd (Nat.eq_of_beq_eq_true hq) h1
   rw[iN h1,e1]; rfl
theorem Tr.IZ{α:Type}(d n:Nat)(l:Tr α)(v:Option α)(r:Tr α)(x:Option α):Tr.set (d+1) (.node l v r) n x=if n=0 then .node l x r else if n % 2=1 then .node (Tr.set d l (n / 2) x) v r else .node l v (Tr.set d r (n / 2 - 1) x):=by
 show(bif Nat.beq n 0 then _ else bif Nat.beq (n % 2) 1 then _ else _)=_
 by_cases h0:n=0
 ·subst h0; rfl
 ·have e0:Nat.beq n 0=false:=by
   cases hq:Nat.beq n 0 with
   | false=>rfl
   | true=>exact absurd (Nat.eq_of_beq_eq_true hq) h0
  rw[iN h0,e0];simp only[cond_false];by_cases h1:n % 2=1
  ·rw[iP h1,h1]; rfl
  ·have e1:Nat.beq (n % 2) 1=false:=by
    cases hq:Nat.beq (n % 2) 1 with
    | false=>rfl
    | true=>exact absurd (Nat.eq_of_beq_eq_true hq) h1
   rw[iN h1,e1]; rfl
theorem Tr.AH{α:Type}:∀ (d:Nat) (t:Tr α) (n:Nat) (x:Option α) (k:Nat),n+1<2 ^ d→(Tr.set d t n x).get k=if k=n then x else t.get k
 | 0,_,n,_,_,h=>by simp at h
 | d+1,t,n,x,k,h=>by
  rw[Nat.pow_succ]at h;cases t with
  | nil=>
   rw[Tr.set_nil,Tr.get_nil];by_cases h0:n=0
   ·subst h0;rw[iP rfl,Tr.BY,Tr.get_nil,Tr.get_nil];split<;>simp
   ·rw[iN h0];by_cases h1:n % 2=1
    ·rw[iP h1,Tr.BY,Tr.get_nil];by_cases BE:k=0
     ·subst BE; rw[iP rfl,iN (by omega)]
     ·rw[iN BE];by_cases hk1:k % 2=1
      ·rw[iP hk1,Tr.AH d .nil (n / 2) x (k / 2) (by omega),Tr.get_nil]
       by_cases hkn:k=n
       ·subst hkn; simp
       ·rw[iN hkn,iN (by omega)]
      ·rw[iN hk1,iN (by omega)]
    ·rw[iN h1,Tr.BY,Tr.get_nil];by_cases BE:k=0
     ·subst BE; rw[iP rfl,iN (by omega)]
     ·rw[iN BE];by_cases hk1:k % 2=1
      ·rw[iP hk1,iN (by omega)]
      ·rw[iN hk1,Tr.AH d .nil (n / 2 - 1) x (k / 2 - 1) (by omega),Tr.get_nil]
       by_cases hkn:k=n
       ·subst hkn; simp
       ·rw[iN hkn,iN (by omega)]
  | node l v r=>
   rw[Tr.IZ,Tr.BY];by_cases h0:n=0
   ·subst h0;rw[iP rfl,Tr.BY];by_cases BE:k=0<;>simp[BE]
   ·rw[iN h0];by_cases h1:n % 2=1
    ·rw[iP h1,Tr.BY];by_cases BE:k=0
     ·subst BE; rw[iP rfl,iP rfl,iN (by omega)]
     ·rw[iN BE,iN BE];by_cases hk1:k % 2=1
      ·rw[iP hk1,iP hk1,Tr.AH d l (n / 2) x (k / 2) (by omega)]
       by_cases hkn:k=n
       ·subst hkn; simp
       ·rw[iN hkn,iN (by omega)]
      ·rw[iN hk1,iN hk1,iN (by omega)]
    ·rw[iN h1,Tr.BY];by_cases BE:k=0
     ·subst BE; rw[iP rfl,iP rfl,iN (by omega)]
     ·rw[iN BE,iN BE];by_cases hk1:k % 2=1
      ·rw[iP hk1,iP hk1,iN (by omega)]
      ·rw[iN hk1,iN hk1,Tr.AH d r (n / 2 - 1) x (k / 2 - 1) (by omega)]
       by_cases hkn:k=n
       ·subst hkn; simp
       ·rw[iN hkn,iN (by omega)]
theorem RR{b:Nat}(h:b<bound):b+1<2 ^ depth:=by
 simp only[bound,depth]at *;omega
theorem TM.CE{m:TM}{b:Nat}{x:Ai}(h:b<bound):(m.set b (some x)).mem=m.mem.set b x:=
 Mem.ext' (fun c=>by simp only[TM.mem,TM.set,Mem.AH,Tr.AH depth _ b _ c (RR h)]) rfl
theorem TM.CD{m:TM}{b:Nat}(h:b<bound):(m.set b none).mem=m.mem.del b:=
 Mem.ext' (fun c=>by simp only[TM.mem,TM.set,Mem.BB,Tr.AH depth _ b _ c (RR h)]) rfl
theorem WJ{a b:Nat}(h:Nat.ble a b=false):b<a:=by
 rcases lG b a with h'|h'
 ·exact h'
 ·rw[Nat.ble_eq_true_of_le h']at h; cases h
theorem pM{b:Nat}{x:Option Ai}{r:List (Nat×Option Ai)}(h:FB ((b,x) :: r)=true):b<bound∧FB r=true:=by
 simp only[FB]at h;cases hb:Nat.ble bound b with
 | true=>rw[hb]at h; cases h
 | false=>rw[hb]at h; exact⟨WJ hb,h⟩
theorem TM.Ct:∀ (d:List (Nat×Option Ai)) (m:TM),FB d=true→(m.apply d).mem=m.mem.apply d
 | [],m,_=>rfl
 | (b,none) :: r,m,h=>by
  obtain⟨h1,h2⟩:=pM h;simp only[TM.apply,Mem.apply];rw[TM.Ct r _ h2,TM.CD h1]
 | (b,some x) :: r,m,h=>by
  obtain⟨h1,h2⟩:=pM h;simp only[TM.apply,Mem.apply];rw[TM.Ct r _ h2,TM.CE h1]
theorem TM.BX:∀ (d:List (Nat×Option Ai)) (m:TM),(m.apply d).next=m.next
 | [],_=>rfl
 | (b,x) :: r,m=>by simp only[TM.apply]; rw[TM.BX r]; rfl
theorem RK{lim:Nat}:∀ (d:List (Nat×Option Ai)) (wl:List Nat) (m:Mem) (c:Nat),c<lim→c∉EG lim wl d→c∉wl∧(m.apply d).get c=m.get c
 | [],wl,m,c,_,h=>⟨h,rfl⟩
 | (b,x) :: r,wl,m,c,hc,h=>by
  simp only[EG]at h;have key:∀ m':Mem,(c≠b→m'.get c=m.get c)→c≠b→(m'.apply r).get c=m'.get c→(m'.apply r).get c=m.get c:=fun m' h1 h2 h3=>by rw[h3,h1 h2]
  cases hb:Nat.ble lim b with
  | true=>
   rw[hb]at h;have hne:c≠b:=by
    have:=Nat.le_of_ble_eq_true hb;omega
   cases x with
   | none=>
    obtain⟨h1,h2⟩:=RK r wl (m.del b) c hc h;exact⟨h1,by simp only[Mem.apply]; rw[h2]; simp[hne]⟩
   | some y=>
    obtain⟨h1,h2⟩:=RK r wl (m.set b y) c hc h;exact⟨h1,by simp only[Mem.apply]; rw[h2]; simp[hne]⟩
  | false=>
   rw[hb]at h;cases x with
   | none=>
    obtain⟨h1,h2⟩:=RK r (b :: wl) (m.del b) c hc h;simp only[mC,not_or]at h1;exact⟨h1.2,by simp only[Mem.apply]; rw[h2]; simp[h1.1]⟩
   | some y=>
    obtain⟨h1,h2⟩:=RK r (b :: wl) (m.set b y) c hc h;simp only[mC,not_or]at h1;exact⟨h1.2,by simp only[Mem.apply]; rw[h2]; simp[h1.1]⟩
theorem Wn{lim:Nat}:∀ (d wl:List Nat) (c:Nat),c<lim→c∉FO lim wl d→c∉wl∧c∉d
 | [],wl,c,_,h=>⟨h,by simp⟩
 | b :: r,wl,c,hc,h=>by
  simp only[FO]at h;cases hb:Nat.ble lim b with
  | true=>
   rw[hb]at h;have:=Nat.le_of_ble_eq_true hb;obtain⟨h1,h2⟩:=Wn r wl c hc h;exact⟨h1,by simp only[mC,not_or]; exact⟨by omega,h2⟩⟩
  | false=>
   rw[hb]at h;obtain⟨h1,h2⟩:=Wn r (b :: wl) c hc h;simp only[mC,not_or]at h1;exact⟨h1.2,by simp only[mC,not_or]; exact⟨h1.1,h2⟩⟩
def Cs(n:Nat)(t:Tr Aa):List Aa:=(List.range n).map fun i=>Ch t (.tmp i)
def Dj(n:Nat)(t:Tr Aa):Prop:=∀ i,n≤i→t.get i=none
theorem Su(n:Nat)(t:Tr Aa):(Cs n t).length=n:=by simp[Cs]
theorem Wu{n:Nat}{t:Tr Aa}{i:Nat}(h:i<n):(Cs n t)[i]? = some (Ch t (.tmp i)):=by
 simp[Cs,h]
theorem Jk{n:Nat}{t:Tr Aa}(ht:Dj n t):ev (Cs n t)=Ch t:=by
 funext x
 cases x with
 | tmp i=>
  rcases lG i n with h|h
  ·simp only[ev,List.getD,Wu h,Option.getD_some]
  ·have e1:(Cs n t)[i]? = none:=List.getElem?_eq_none (by rw[Su]; exact h)
   simp only[ev,List.getD,e1,Ch,ht i h,Option.getD_none]
 | const v=>rfl
 | fn f=>rfl
theorem A4{n:Nat}{t:Tr Aa}{d:Option Nat}{v:Aa}(hn:n≤bound)(ht:Dj n t)(hd:∀ k,d=some k→k<n):Dj n (R3 t d v)∧Cs n (R3 t d v)=put (Cs n t) d v:=by
 cases d with
 | none=>exact ⟨ht,rfl⟩
 | some k=>
  have hk:=hd k rfl;have hs:=Tr.AH depth t k (some v);have hb:k+1<2 ^ depth:=RR (by omega)
  refine⟨fun i hi=>?_,?_⟩
  ·simp only[R3];rw[hs i hb,iN (by omega)]
   exact ht i hi
  ·apply List.ext_getElem?;intro i;simp only[put];rw[List.getElem?_set];rcases lG i n with h|h
   ·rw[Wu h,Wu h];by_cases hki:k=i
    ·subst hki;rw[iP rfl,iP (by rw[Su]; exact hk)]
     simp only[R3,Ch];rw[hs k hb,iP rfl]
    ·rw[iN hki];simp only[R3,Ch];rw[hs i hb,iN (fun e=>hki e.symm)]
   ·rw[List.getElem?_eq_none (by rw[Su]; exact h),List.getElem?_eq_none (by rw[Su]; exact h)]
    rw[iN (by omega)]
end Go.AE
