/- Part 9 of the proof: AeTb, Pd. -/
import Derived.Test.YtilmpmlkndfbjaaGreatDoorI8
set_option linter.all false
section
namespace Go.AE
open Go.RowKit
def Good(P:Program)(p:Nat×AFn):Prop:=(∃ fn,P.funcs[p.1]? = some fn∧cFn P fn=some p.2)∧M0 p.2.ntmps p.2.body=true∧Nat.ble p.2.ntmps bound=true∧Nat.ble (p.1+1) bound=true
def AllT(P:Program):List (Nat×AFn)→Prop
 | []=>True
 | p :: r=>Good P p∧AllT P r
def Zho:List (Nat×AFn)→Tr AFn
 | []=>.nil
 | p :: r=>(Zho r).set depth p.1 (some p.2)
theorem Zyd{P:Program}:∀ {l:List (Nat×AFn)},AllT P l → ∀ g a,(Zho l).get g=some a→Good P (g,a)
 | [],_,g,a,h=>by simp[Zho,Tr.get_nil]at h
 | p :: r,b,g,a,h=>by
  simp only[Zho]at h;rw[Tr.get_set depth _ p.1 _ g (Zfs (Nat.le_of_ble_eq_true b.1.2.2.2))]at h;split at h
  ·rename_i c;subst c;injection h with h
   subst h;exact b.1
  ·exact Zyd b.2 g a h
def Zsi(t:Tr AFn):Nat→Option AFn:=fun g=>t.get g
theorem Z5b{P:Program}{l:List (Nat×AFn)}{t:Tr AFn}(e:AllT P l)(f:t=Zho l):Zeu P (Zsi t):=by
 subst f;intro g a h;obtain⟨b,c,d,_⟩:=Zyd e g a h;exact⟨b,c,Nat.le_of_ble_eq_true d⟩
theorem AllT.append{P:Program}:∀ {a b:List (Nat×AFn)},AllT P a→AllT P b→AllT P (a++b)
 | [],_,_,h=>h
 | _ :: _,_,h,c=>⟨h.1,AllT.append h.2 c⟩
def Zoz(tab:Nat→Option AFn)(call:Caller)(G:Nat)(p:AParts):Caller:=fun g args m=>
 bif Nat.beq g G then runR tab call p args m else none
theorem Ycv{P:Program}(hm:P.follows .mixedOrders=true){tab:Nat→Option AFn}(c:Zeu P tab){a:Caller}(b:P4 P a){G:FuncId}{fn:Func}{p:AParts}(k:P.funcs[G]? = some fn)(l:Zg1 P fn=some p)(e:p.ok=true):P4 P (Zoz tab a G p):=by
 intro g args m v n wl h;unfold Zoz at h;cases d:Nat.beq g G with
 | false=>rw[d]at h; cases h
 | true=>
  rw[d]at h;simp only[cond_true]at h;have:=Nat.eq_of_beq_eq_true d;subst this;obtain⟨f,i,j⟩:=Ycc hm c b k l e h;exact⟨f,i,fun id=>j [id]⟩
end Go.AE
end
section
namespace Go.Plain
abbrev Ent:=Int×Int×Int
def fnd(id:Int):List Ent→Option (Nat×Int×Int)
 | []=>none
 | (k,v) :: r=>if id=k then some (0,v)else match fnd id r with
  | some (p,w)=>some (p+1,w)
  | none=>none
def K4(o:Bool)(i:Int)(v:Int×Int):Int×Int:=if o then (v.1,i)else (i,v.2)
def S5(o:Bool)(v:Int×Int):Int:=if o then v.2 else v.1
def updE(E:List Ent)(id:Int)(o:Bool)(i:Int):List Ent:=
 match fnd id E with
 | some (p,v)=>E.set p (id,K4 o i v)
 | none=>E++[(id,K4 o i (-1,-1))]
def crE(ls:List Lt):Nat→List Ent
 | 0=>[]
 | i+1=>if isX (at' ls i)then updE (crE ls i) (at' ls i).i (at' ls i).o i else crE ls i
def fitE(ls:List Lt)(E:List Ent)(l:Lt):Bool:=
 match fnd l.i E with
 | none=>true
 | some (_,v)=>decide (S5 l.o v<0)&&decide ((at' ls (S5 (!l.o) v).toNat).s=l.s)
def crF(ls:List Lt)(n:Nat):Nat→Bool
 | 0=>true
 | i+1=>crF ls n i&&(!isX (at' ls i)||(decide (1≤(at' ls i).i)&&decide ((at' ls i).i≤(n / 2:Nat))&&fitE ls (crE ls i) (at' ls i)))
theorem Z45{ls:List Lt}{n:Nat}:∀ {i j:Nat},i≤j→crF ls n j=true→crF ls n i=true:=by
 intro i j a
 induction a with
 | refl=>exact id
 | step _ b=>intro h; simp only[crF,bA]at h; exact b h.1
def VisOk(i:Nat)(v:Int×Int):Prop:=(v.1 = -1∨(0≤v.1∧v.1<i))∧(v.2 = -1∨(0≤v.2∧v.2<i)) ∧ ¬(v.1 = -1∧v.2 = -1)
theorem VisOk.mono{i j:Nat}{v:Int×Int}(h:VisOk i v)(b:i≤j):VisOk j v:=by
 obtain⟨c,d,a⟩:=h;exact⟨by omega,by omega,a⟩
theorem Zh0{id:Int}:∀ {E:List Ent} {p:Nat} {v:Int×Int},fnd id E=some (p,v)→E[p]? = some (id,v)
 | [],p,v,h=>by cases h
 | (k,w) :: r,p,v,h=>by
  simp only[fnd]at h;split at h
  ·rename_i e;cases h;subst e; rfl
  ·cases a:fnd id r with
   | none=>rw[a]at h; cases h
   | some b=>
    obtain⟨q,u⟩:=b;rw[a]at h;cases h;simpa using Zh0 a
theorem Zvo{i:Nat}{o:Bool}{v:Int×Int}(h:VisOk i v∨v=(-1,-1)):VisOk (i+1) (K4 o i v):=by
 cases o<;>unfold K4 VisOk at * <;> simp only[bF,if_true,if_false]
 ·rcases h with h|h
  ·omega
  ·subst h; simp; omega
 ·rcases h with h|h
  ·omega
  ·subst h; simp; omega
theorem Zgg(ls:List Lt):∀ i,∀ e,e∈crE ls i→VisOk i e.2
 | 0,e,h=>by simp[crE]at h
 | i+1,e,h=>by
  simp only[crE]at h;split at h
  ·unfold updE at h;split at h
   ·rename_i p v b;rcases List.mem_or_eq_of_mem_set h with a|a
    ·exact(Zgg ls i e a).mono (by omega)
    ·subst a;exact Zvo (.inl (Zgg ls i _ (List.mem_of_getElem? (Zh0 b))))
   ·rw[List.mem_append,List.mem_singleton]at h;rcases h with a|a
    ·exact(Zgg ls i e a).mono (by omega)
    ·subst a;exact Zvo (.inr rfl)
  ·exact(Zgg ls i e h).mono (by omega)
theorem Zwg(ls:List Lt):∀ i,(crE ls i).length≤i
 | 0=>Nat.le_refl _
 | i+1=>by
  simp only[crE];have:=Zwg ls i;split
  ·unfold updE;split
   ·simp; omega
   ·simp; omega
  ·omega
end Go.Plain
end
