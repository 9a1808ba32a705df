/- Part 9 of the proof: AeTb, Pd. -/
import Derived.Test.YtipeejpafgnjdaaGreatDoorH8
set_option linter.all false
section
namespace Go.AE
open Go.RowKit
def Good(P:Program)(p:Nat×AFn):Prop:=(∃ fn,P.funcs[p.1]? = some fn∧cFn P fn=some p.2)∧O9 p.2.ntmps p.2.body=true∧Nat.ble p.2.ntmps bound=true∧Nat.ble (p.1+1) bound=true
def AllT(P:Program):List (Nat×AFn)→Prop
 | []=>True
 | p :: r=>Good P p∧AllT P r
def Zhk:List (Nat×AFn)→Tr AFn
 | []=>.nil
 | p :: r=>(Zhk r).set depth p.1 (some p.2)
theorem Zu2{P:Program}:∀ {l:List (Nat×AFn)},AllT P l → ∀ g af,(Zhk l).get g=some af→Good P (g,af)
 | [],_,g,af,h=>by simp[Zhk,Tr.get_nil]at h
 | p :: r,ha,g,af,h=>by
  simp only[Zhk]at h;rw[Tr.get_set depth _ p.1 _ g (Ze8 (Nat.le_of_ble_eq_true ha.1.2.2.2))]at h;split at h
  ·rename_i hg;subst hg;injection h with h
   subst h;exact ha.1
  ·exact Zu2 ha.2 g af h
def Zpw(t:Tr AFn):Nat→Option AFn:=fun g=>t.get g
theorem Z7i{P:Program}{l:List (Nat×AFn)}{t:Tr AFn}(ha:AllT P l)(ht:t=Zhk l):Zd8 P (Zpw t):=by
 subst ht;intro g af h;obtain⟨h1,h2,h3,_⟩:=Zu2 ha g af h;exact⟨h1,h2,Nat.le_of_ble_eq_true h3⟩
theorem AllT.append{P:Program}:∀ {a b:List (Nat×AFn)},AllT P a→AllT P b→AllT P (a++b)
 | [],_,_,h=>h
 | _ :: _,_,h,h'=>⟨h.1,AllT.append h.2 h'⟩
def Zrl(tab:Nat→Option AFn)(call:Caller)(G:Nat)(p:AParts):Caller:=fun g args m=>
 bif Nat.beq g G then runR tab call p args m else none
theorem Yce{P:Program}(hm:P.follows .mixedOrders=true){tab:Nat→Option AFn}(htab:Zd8 P tab){call:Caller}(hcall:P5 P call){G:FuncId}{fn:Func}{p:AParts}(hf:P.funcs[G]? = some fn)(hp:Zgd P fn=some p)(hok:p.ok=true):P5 P (Zrl tab call G p):=by
 intro g args m v m' wl h;unfold Zrl at h;cases hg:Nat.beq g G with
 | false=>rw[hg]at h; cases h
 | true=>
  rw[hg]at h;simp only[cond_true]at h;have:=Nat.eq_of_beq_eq_true hg;subst this;obtain⟨h1,h2,h3⟩:=Z8f hm htab hcall hf hp hok h;exact⟨h1,h2,fun id=>h3 [id]⟩
end Go.AE
end
section
namespace Go.Plain
abbrev Ent:=Int×Int×Int
def fnd(id:Int):List Ent→Option (Nat×Int×Int)
 | []=>none
 | (k,v) :: r=>if id=k then some (0,v)else match fnd id r with
  | some (p,w)=>some (p+1,w)
  | none=>none
def L5(o:Bool)(i:Int)(v:Int×Int):Int×Int:=if o then (v.1,i)else (i,v.2)
def T9(o:Bool)(v:Int×Int):Int:=if o then v.2 else v.1
def updE(E:List Ent)(id:Int)(o:Bool)(i:Int):List Ent:=
 match fnd id E with
 | some (p,v)=>E.set p (id,L5 o i v)
 | none=>E++[(id,L5 o i (-1,-1))]
def crE(ls:List Lt):Nat→List Ent
 | 0=>[]
 | i+1=>if isX (at' ls i)then updE (crE ls i) (at' ls i).i (at' ls i).o i else crE ls i
def fitE(ls:List Lt)(E:List Ent)(l:Lt):Bool:=
 match fnd l.i E with
 | none=>true
 | some (_,v)=>decide (T9 l.o v<0)&&decide ((at' ls (T9 (!l.o) v).toNat).s=l.s)
def crF(ls:List Lt)(n:Nat):Nat→Bool
 | 0=>true
 | i+1=>crF ls n i&&(!isX (at' ls i)||(decide (1≤(at' ls i).i)&&decide ((at' ls i).i≤(n / 2:Nat))&&fitE ls (crE ls i) (at' ls i)))
theorem Z4u{ls:List Lt}{n:Nat}:∀ {i j:Nat},i≤j→crF ls n j=true→crF ls n i=true:=by
 intro i j hij
 induction hij with
 | refl=>exact id
 | step _ ih=>intro h; simp only[crF,bA]at h; exact ih h.1
def VisOk(i:Nat)(v:Int×Int):Prop:=(v.1 = -1∨(0≤v.1∧v.1<i))∧(v.2 = -1∨(0≤v.2∧v.2<i)) ∧ ¬(v.1 = -1∧v.2 = -1)
theorem VisOk.mono{i j:Nat}{v:Int×Int}(h:VisOk i v)(hij:i≤j):VisOk j v:=by
 obtain⟨h1,h2,h3⟩:=h;exact⟨by omega,by omega,h3⟩
theorem Zhb{id:Int}:∀ {E:List Ent} {p:Nat} {v:Int×Int},fnd id E=some (p,v)→E[p]? = some (id,v)
 | [],p,v,h=>by cases h
 | (k,w) :: r,p,v,h=>by
  simp only[fnd]at h;split at h
  ·rename_i e;cases h;subst e; rfl
  ·cases hr:fnd id r with
   | none=>rw[hr]at h; cases h
   | some pw=>
    obtain⟨q,u⟩:=pw;rw[hr]at h;cases h;simpa using Zhb hr
theorem Zt4{i:Nat}{o:Bool}{v:Int×Int}(h:VisOk i v∨v=(-1,-1)):VisOk (i+1) (L5 o i v):=by
 cases o<;>unfold L5 VisOk at * <;> simp only[bF,if_true,if_false]
 ·rcases h with h|h
  ·omega
  ·subst h; simp; omega
 ·rcases h with h|h
  ·omega
  ·subst h; simp; omega
theorem Zgq(ls:List Lt):∀ i,∀ e,e∈crE ls i→VisOk i e.2
 | 0,e,h=>by simp[crE]at h
 | i+1,e,h=>by
  simp only[crE]at h;split at h
  ·unfold updE at h;split at h
   ·rename_i p v hf;rcases List.mem_or_eq_of_mem_set h with h1|h1
    ·exact(Zgq ls i e h1).mono (by omega)
    ·subst h1;exact Zt4 (.inl (Zgq ls i _ (List.mem_of_getElem? (Zhb hf))))
   ·rw[List.mem_append,List.mem_singleton]at h;rcases h with h1|h1
    ·exact(Zgq ls i e h1).mono (by omega)
    ·subst h1;exact Zt4 (.inr rfl)
  ·exact(Zgq ls i e h).mono (by omega)
theorem Zum(ls:List Lt):∀ i,(crE ls i).length≤i
 | 0=>Nat.le_refl _
 | i+1=>by
  simp only[crE];have:=Zum ls i;split
  ·unfold updE;split
   ·simp; omega
   ·simp; omega
  ·omega
end Go.Plain
end
