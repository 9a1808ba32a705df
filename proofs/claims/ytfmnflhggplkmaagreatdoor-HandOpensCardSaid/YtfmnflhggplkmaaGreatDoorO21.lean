/- Part 21 of the proof: AeTb, Pc, Pd. -/
import Derived.Test.YtfmnflhggplkmaaGreatDoorO20
import Derived.Lib.Join
set_option linter.all false
section
namespace Go.AE
open Go.RowKit
def Good (P:Program) (p:Nat×AFn):Prop:=(∃ fn,P.funcs[p.1]? = some fn∧cFn P fn=some p.2)∧dstOk p.2.ntmps p.2.body=true∧Nat.ble p.2.ntmps bound=true∧Nat.ble (p.1+1) bound=true
def AllT (P:Program):List (Nat×AFn)→Prop
 | []=>True
 | p :: r=>Good P p∧AllT P r
def treeOf:List (Nat×AFn)→Tr AFn
 | []=>.nil
 | p :: r=>(treeOf r).set depth p.1 (some p.2)
theorem treeOf_get {P:Program}:∀ {l:List (Nat×AFn)},AllT P l → ∀ g af,(treeOf l).get g=some af→Good P (g,af)
 | [],_,g,af,h=>by simp[treeOf,Tr.get_nil]at h
 | p :: r,ha,g,af,h=>by
  simp only[treeOf]at h
  rw[Tr.get_set depth _ p.1 _ g (bound_lt (Nat.le_of_ble_eq_true ha.1.2.2.2))]at h
  split at h
  ·rename_i hg
   subst hg
   injection h with h
   subst h
   exact ha.1
  ·exact treeOf_get ha.2 g af h
def tabOf (t:Tr AFn):Nat→Option AFn:=fun g=>t.get g
theorem tabOf_ok {P:Program} {l:List (Nat×AFn)} {t:Tr AFn} (ha:AllT P l) (ht:t=treeOf l):TabOk P (tabOf t):=by
 subst ht
 intro g af h
 obtain⟨h1,h2,h3,_⟩:=treeOf_get ha g af h
 exact⟨h1,h2,Nat.le_of_ble_eq_true h3⟩
theorem AllT.append {P:Program}:∀ {a b:List (Nat×AFn)},AllT P a→AllT P b→AllT P (a++b)
 | [],_,_,h=>h
 | _ :: _,_,h,h'=>⟨h.1,AllT.append h.2 h'⟩
end Go.AE
end
section
namespace Go.Plain
def placeV (ls:List Lt) (j:Nat):Nat:=if isP (at' ls j)then pos ls (at' ls j)else 0
end Go.Plain
end
section
namespace Go.Plain
abbrev Ent:=Int×Int×Int
def fnd (id:Int):List Ent→Option (Nat×Int×Int)
 | []=>none
 | (k,v) :: r=>if id=k then some (0,v)else match fnd id r with
  | some (p,w)=>some (p+1,w)
  | none=>none
def putV (o:Bool) (i:Int) (v:Int×Int):Int×Int:=if o then (v.1,i)else (i,v.2)
def slotV (o:Bool) (v:Int×Int):Int:=if o then v.2 else v.1
def updE (E:List Ent) (id:Int) (o:Bool) (i:Int):List Ent:=
 match fnd id E with
 | some (p,v)=>E.set p (id,putV o i v)
 | none=>E++[(id,putV o i (-1,-1))]
def crE (ls:List Lt):Nat→List Ent
 | 0=>[]
 | i+1=>if isX (at' ls i)then updE (crE ls i) (at' ls i).i (at' ls i).o i else crE ls i
def VisOk (i:Nat) (v:Int×Int):Prop:=(v.1 = -1∨(0≤v.1∧v.1<i))∧(v.2 = -1∨(0≤v.2∧v.2<i)) ∧ ¬(v.1 = -1∧v.2 = -1)
theorem VisOk.mono {i j:Nat} {v:Int×Int} (h:VisOk i v) (hij:i≤j):VisOk j v:=by
 obtain⟨h1,h2,h3⟩:=h
 exact⟨by omega,by omega,h3⟩
end Go.Plain
end
